/- Texts of the seat's proofs, part 4: functions of the program told as plain functions, with their contracts, and what is shown of them. No condition. -/
import Derived.Test.YtpjahhljpoeaeaaUKFS
import Derived.Test.YtpjahhljpoeaeaaKFS1
import Derived.Test.YtpjahhljpoeaeaaKFS3
set_option linter.unusedVariables false
set_option linter.unusedSimpArgs false
namespace Go.Proofs.Ytpjahhljpoeaeaa.P
open Go.RowKit Go.Proofs.YtpjahhljpoeaeaaW.PrintWords Go.Proofs.YtpjahhljpoeaeaaW.PrintLast Go.Proofs.YtpjahhljpoeaeaaW.PrintMore
attribute [local go_sem] max2_int min2_int max_two min_two max_three min_three max_four min_four
set_option linter.unusedVariables false
set_option linter.unusedSimpArgs false
def spec_l13DrawAny.l0 : Nat → List Int → Int → Int → Int → Int → List (S79) → Option (Int × Int × (List (S79)) × Int × Int)
  | 0, _, _, _, _, _, _ => none
  | k + 1, x1000, x1001, x1002, x655000, x655001, x655002 => if (x655002.length : Int) ≤ 12 then (if x655002.length < 8796093022208 then (spec_l13DrawAny.l0 k x1000 x1001 x1002 x655000 x655001 (x655002 ++ [(⟨0, 1⟩ : S79)])) else (none)) else (some (x655000, x655001, x655002, x1001, x1002))
def spec_l13DrawAny.f (k : Nat) (s0_0 : List Int) (s0_1 : Int) (s0_2 : Int) : Option (Int × Int × (List (S79)) × Int × Int) := (spec_l13DrawPlan.f k s0_0 s0_1 s0_2).bind fun bt647 => ((spec_l1Below.f s0_0 bt647.2.2.2.1 bt647.2.2.2.2 25).bind fun bt655 => (if bt655.1 = 0 then ((spec_l2DrawCount.f s0_0 bt655.2.1 bt655.2.2).bind fun bt658 => (some (bt658.1, bt647.2.1, bt647.2.2.1, bt658.2.1, bt658.2.2))) else (if bt655.1 = 1 then ((spec_l1PickInt.f s0_0 bt655.2.1 bt655.2.2 (([(-1), 100000, 100001] : List Int))).bind fun bt664 => (some (bt647.1, bt664.1, bt647.2.2.1, bt664.2.1, bt664.2.2))) else (if bt655.1 = 2 then ((spec_l1PickInt.f s0_0 bt655.2.1 bt655.2.2 (([(-1), 8, 7] : List Int))).bind fun bt670 => (if 0 < (bt647.2.2.1.length : Int) then (some (bt647.1, bt647.2.1, (bt647.2.2.1.set (0 : Int).toNat (⟨bt670.1, (rd_T79 bt647.2.2.1 0).f1⟩ : S79)), bt670.2.1, bt670.2.2)) else (none))) else (if bt655.1 = 3 then ((spec_l1PickInt.f s0_0 bt655.2.1 bt655.2.2 (([0, 1000000, 1000001] : List Int))).bind fun bt677 => (if 0 < (bt647.2.2.1.length : Int) then (some (bt647.1, bt647.2.1, (bt647.2.2.1.set (0 : Int).toNat (⟨(rd_T79 bt647.2.2.1 0).f0, bt677.1⟩ : S79)), bt677.2.1, bt677.2.2)) else (none))) else (if bt655.1 = 4 then (some (bt647.1, bt647.2.1, ([] : List (S79)), bt655.2.1, bt655.2.2)) else (if bt655.1 = 5 then (spec_l13DrawAny.l0 k s0_0 bt655.2.1 bt655.2.2 bt647.1 bt647.2.1 bt647.2.2.1) else (some (bt647.1, bt647.2.1, bt647.2.2.1, bt655.2.1, bt655.2.2)))))))))
def spec_l13DrawAny.T8 : Bool × List (List Nat × List Nat) := (true, [([], []), ([0], [0]), ([], []), ([], []), ([2, 3], [2, 3]), ([1, 0, 1, 2, 3, 4], [1]), ([5, 0, 1, 2, 3, 4], [5]), ([6, 4, 4, 0, 1, 2, 3, 4], [4, 6])])
def spec_l13DrawAny.B8 : List Nat := [0, 1, 0, 0, 12, 31, 63, 127]
theorem spec_l13DrawAny.tab8 : rtab .any (opsOf Try.f66 8) = spec_l13DrawAny.T8 := by kernel_rfl
theorem spec_l13DrawAny.bits8 : waitsOk spec_l13DrawAny.T8.2 spec_l13DrawAny.B8 = true := by kernel_rfl
def spec_l13DrawAny.T10 : Bool × List (List Nat × List Nat) := (true, [([], []), ([0], [0]), ([], []), ([], []), ([2, 3], [2, 3]), ([1, 0, 1, 2, 3, 4], [1]), ([5, 0, 1, 2, 3, 4], [5]), ([6, 4, 4, 0, 1, 2, 3, 4], [4, 6])])
def spec_l13DrawAny.B10 : List Nat := [0, 1, 0, 0, 12, 31, 63, 127]
theorem spec_l13DrawAny.tab10 : rtab .any (opsOf Try.f66 10) = spec_l13DrawAny.T10 := by kernel_rfl
theorem spec_l13DrawAny.bits10 : waitsOk spec_l13DrawAny.T10.2 spec_l13DrawAny.B10 = true := by kernel_rfl
set_option maxHeartbeats 8000000 in
set_option maxRecDepth 100000 in
theorem spec_l13DrawAny.calls (k : Nat) (g : Nat) (s0_0 : List Int) (s0_1 : Int) (s0_2 : Int) (r1 : Int) (r2 : Int) (r3 : List (S79)) (r4 : Int) (r5 : Int) (w0 w : World) (hI : IsS122 w0 w g s0_0 s0_1 s0_2) (hB : Below w0.heap.size w0 w) (h : spec_l13DrawAny.f k s0_0 s0_1 s0_2 = some (r1, r2, r3, r4, r5)) :
    Calls Try.prog 66 #[.pointer (some ⟨g, 0, none⟩)] w fun e w' => ∃ v2_ : Value, e = .returned (.agg #[.int .i64 r1, .int .i64 r2, v2_]) ∧ Kd.R k79 79 w' w.heap.size (fun _ => True) v2_ r3 ∧ IsS122 w0 w' g s0_0 r4 r5 ∧ Below w0.heap.size w0 w' ∧ KeepBut w w' g none := by
  have hu39 := Try.underlying39
  have hu79 := Try.underlying79
  have HI0 := Aside0.mk hI
  have HK := Aside0.mk (KeepBut.refl w g none)
  have HL := Aside0.mk hB.size
  clear hI
  have HW0 := Aside0.mk hB.size
  have HB := Aside0.mk hB
  clear hB
  have H : ((spec_l13DrawPlan.f k s0_0 s0_1 s0_2).bind fun bt647 => ((spec_l1Below.f s0_0 bt647.2.2.2.1 bt647.2.2.2.2 25).bind fun bt655 => (if bt655.1 = 0 then ((spec_l2DrawCount.f s0_0 bt655.2.1 bt655.2.2).bind fun bt658 => (some (bt658.1, bt647.2.1, bt647.2.2.1, bt658.2.1, bt658.2.2))) else (if bt655.1 = 1 then ((spec_l1PickInt.f s0_0 bt655.2.1 bt655.2.2 (([(-1), 100000, 100001] : List Int))).bind fun bt664 => (some (bt647.1, bt664.1, bt647.2.2.1, bt664.2.1, bt664.2.2))) else (if bt655.1 = 2 then ((spec_l1PickInt.f s0_0 bt655.2.1 bt655.2.2 (([(-1), 8, 7] : List Int))).bind fun bt670 => (if 0 < (bt647.2.2.1.length : Int) then (some (bt647.1, bt647.2.1, (bt647.2.2.1.set (0 : Int).toNat (⟨bt670.1, (rd_T79 bt647.2.2.1 0).f1⟩ : S79)), bt670.2.1, bt670.2.2)) else (none))) else (if bt655.1 = 3 then ((spec_l1PickInt.f s0_0 bt655.2.1 bt655.2.2 (([0, 1000000, 1000001] : List Int))).bind fun bt677 => (if 0 < (bt647.2.2.1.length : Int) then (some (bt647.1, bt647.2.1, (bt647.2.2.1.set (0 : Int).toNat (⟨(rd_T79 bt647.2.2.1 0).f0, bt677.1⟩ : S79)), bt677.2.1, bt677.2.2)) else (none))) else (if bt655.1 = 4 then (some (bt647.1, bt647.2.1, ([] : List (S79)), bt655.2.1, bt655.2.2)) else (if bt655.1 = 5 then (spec_l13DrawAny.l0 k s0_0 bt655.2.1 bt655.2.2 bt647.1 bt647.2.1 bt647.2.2.1) else (some (bt647.1, bt647.2.1, bt647.2.2.1, bt655.2.1, bt655.2.2)))))))))) = some (r1, r2, r3, r4, r5) := h
  clear h
  replace H := Option.bind_eq_some_iff.mp H
  obtain ⟨⟨t647, t648, t649, t652, t653⟩, A20, H⟩ := H
  replace H : ((spec_l1Below.f s0_0 t652 t653 25).bind fun bt655 => (if bt655.1 = 0 then ((spec_l2DrawCount.f s0_0 bt655.2.1 bt655.2.2).bind fun bt658 => (some (bt658.1, t648, t649, bt658.2.1, bt658.2.2))) else (if bt655.1 = 1 then ((spec_l1PickInt.f s0_0 bt655.2.1 bt655.2.2 (([(-1), 100000, 100001] : List Int))).bind fun bt664 => (some (t647, bt664.1, t649, bt664.2.1, bt664.2.2))) else (if bt655.1 = 2 then ((spec_l1PickInt.f s0_0 bt655.2.1 bt655.2.2 (([(-1), 8, 7] : List Int))).bind fun bt670 => (if 0 < (t649.length : Int) then (some (t647, t648, (t649.set (0 : Int).toNat (⟨bt670.1, (rd_T79 t649 0).f1⟩ : S79)), bt670.2.1, bt670.2.2)) else (none))) else (if bt655.1 = 3 then ((spec_l1PickInt.f s0_0 bt655.2.1 bt655.2.2 (([0, 1000000, 1000001] : List Int))).bind fun bt677 => (if 0 < (t649.length : Int) then (some (t647, t648, (t649.set (0 : Int).toNat (⟨(rd_T79 t649 0).f0, bt677.1⟩ : S79)), bt677.2.1, bt677.2.2)) else (none))) else (if bt655.1 = 4 then (some (t647, t648, ([] : List (S79)), bt655.2.1, bt655.2.2)) else (if bt655.1 = 5 then (spec_l13DrawAny.l0 k s0_0 bt655.2.1 bt655.2.2 t647 t648 t649) else (some (t647, t648, t649, bt655.2.1, bt655.2.2))))))))) = some (r1, r2, r3, r4, r5) := H
  have A2 := Aside0.mk A20
  clear A20
  replace H := Option.bind_eq_some_iff.mp H
  obtain ⟨⟨t655, t656, t657⟩, A30, H⟩ := H
  replace H : (if t655 = 0 then ((spec_l2DrawCount.f s0_0 t656 t657).bind fun bt658 => (some (bt658.1, t648, t649, bt658.2.1, bt658.2.2))) else (if t655 = 1 then ((spec_l1PickInt.f s0_0 t656 t657 (([(-1), 100000, 100001] : List Int))).bind fun bt664 => (some (t647, bt664.1, t649, bt664.2.1, bt664.2.2))) else (if t655 = 2 then ((spec_l1PickInt.f s0_0 t656 t657 (([(-1), 8, 7] : List Int))).bind fun bt670 => (if 0 < (t649.length : Int) then (some (t647, t648, (t649.set (0 : Int).toNat (⟨bt670.1, (rd_T79 t649 0).f1⟩ : S79)), bt670.2.1, bt670.2.2)) else (none))) else (if t655 = 3 then ((spec_l1PickInt.f s0_0 t656 t657 (([0, 1000000, 1000001] : List Int))).bind fun bt677 => (if 0 < (t649.length : Int) then (some (t647, t648, (t649.set (0 : Int).toNat (⟨(rd_T79 t649 0).f0, bt677.1⟩ : S79)), bt677.2.1, bt677.2.2)) else (none))) else (if t655 = 4 then (some (t647, t648, ([] : List (S79)), t656, t657)) else (if t655 = 5 then (spec_l13DrawAny.l0 k s0_0 t656 t657 t647 t648 t649) else (some (t647, t648, t649, t656, t657)))))))) = some (r1, r2, r3, r4, r5) := H
  have A3 := Aside0.mk A30
  clear A30
  by_cases c4 : t655 = 0
  · rw [if_pos c4] at H
    have c4b0 : (t655 == 0) = true := beq_iff_eq.mpr c4
    have c4b1 : (t655 != 0) = false := bne_eq_false_iff_eq.mpr c4
    clear c4
    replace H := Option.bind_eq_some_iff.mp H
    obtain ⟨⟨t658, t659, t660⟩, A50, H⟩ := H
    replace H : (some (t658, t648, t649, t659, t660)) = some (r1, r2, r3, r4, r5) := H
    have A5 := Aside0.mk A50
    clear A50
    simp only [Option.some.injEq, Prod.mk.injEq] at H
    obtain ⟨rfl, rfl, rfl, rfl, rfl⟩ := H
    go_enter Try.func66, Try.ntmps66
    go_wp2_with (first | ((with_reducible refine gate_dst (N := 2) rfl ?_); refine box_event ?hg (N := 2) ?hd (cs := #[.int .i64 0, .int .i64 0, .slice none 0 0]) (t := 39) ?hr ?_; (case hd => rfl); (case hg => rfl); (case hr => first | (go_simp; done) | (go_simp; rfl)); intro gb646 hg w6 hbox hb; have n0_ := Aside0.mk (IsS122.below (by repeat (first | (with_reducible first | exact HI0.out | apply IsS122.alloc | apply IsS122.drewN | apply IsS122.drew | apply IsS122.set_1 | apply IsS122.set_2) | exact HI0.out)) hb); have n1_ := Aside0.mk (KeepBut.trans (by repeat (first | (with_reducible first | exact HK.out | apply KeepBut.set_ | apply keep_drewN | apply keep_drew | apply keep_alloc) | exact HK.out)) (KeepBut.of_below hb g none) (.inl rfl)); have n2_ := Aside0.mk (below_step (by repeat (first | (with_reducible first | exact HB.out | apply below_alloc | apply pw_below_drewN | apply below_drew1 | refine below_set ?_ (IsS122.ge HI0.out)) | exact HB.out)) hb); have n3_ := Aside0.mk (hbox); have n4_ := Aside0.mk ((by rw [hg]; exact (keep_size (w := w) (g := g) (row := none) (by repeat (first | (with_reducible first | exact HK.out | apply KeepBut.set_ | apply keep_drewN | apply keep_drew | apply keep_alloc) | exact HK.out))) : w.heap.size ≤ gb646)); have n5_ := Aside0.mk ((Nat.le_trans HW0.out (by rw [hg]; exact (keep_size (w := w) (g := g) (row := none) (by repeat (first | (with_reducible first | exact HK.out | apply KeepBut.set_ | apply keep_drewN | apply keep_drew | apply keep_alloc) | exact HK.out))) : w.heap.size ≤ gb646) : w0.heap.size ≤ gb646)); have n6_ := Aside0.mk ((by rw [hg]; exact Nat.ne_of_lt (IsS122.lt (show IsS122 w0 _ g s0_0 s0_1 s0_2 from by repeat (first | (with_reducible first | exact HI0.out | apply IsS122.alloc | apply IsS122.drewN | apply IsS122.drew | apply IsS122.set_1 | apply IsS122.set_2) | exact HI0.out))) : g ≠ gb646)); have n7_ := Aside0.mk ((by rw [hg]; exact Nat.ne_of_gt (IsS122.lt (show IsS122 w0 _ g s0_0 s0_1 s0_2 from by repeat (first | (with_reducible first | exact HI0.out | apply IsS122.alloc | apply IsS122.drewN | apply IsS122.drew | apply IsS122.set_1 | apply IsS122.set_2) | exact HI0.out))) : gb646 ≠ g)); clear HI0; clear HK; clear HB; have HI0 := n0_; have HK := n1_; have HB := n2_; have BK646 := n3_; have GW646 := n4_; have GE646 := n5_; have NB0_646 := n6_; have NB646_0 := n7_; clear n0_ n1_ n2_ n3_ n4_ n5_ n6_ n7_; clear hb hbox hg) | ((with_reducible refine gate_callee (f := 92) rfl ?_); refine goesL_ (some 5) rfl rfl Try.func92 (by kernel_rfl) rfl #[.pointer (some ⟨g, 0, none⟩)] rfl arr_ ?_; (with_reducible refine (spec_l13DrawPlan.calls k g s0_0 s0_1 s0_2 t647 t648 t649 t652 t653 w0 _ ?side1 ?side2 A2.out).mono ?_); (case side1 => repeat (first | (with_reducible first | exact HI0.out | apply IsS122.alloc | apply IsS122.drewN | apply IsS122.drew | apply IsS122.set_1 | apply IsS122.set_2 | refine IsS122.far ?_ NB0_646.out _) | exact HI0.out)); (case side2 => repeat (first | (with_reducible first | exact HB.out | apply below_alloc | apply pw_below_drewN | apply below_drew1 | refine below_set ?_ (IsS122.ge HI0.out) | refine below_set ?_ GE646.out) | exact HB.out)); rintro e w7 ⟨v650, rfl, ho0, hi, hb, hk⟩; refine ⟨_, rfl, ?_⟩; have n0_ := Aside0.mk (KeepBut.blk hk (g' := gb646) (o := .cells #[.int .i64 0, .int .i64 0, .slice none 0 0] 39 (0, 0)) (bk_ BK646.out) NB646_0.out (by simp)); have n1_ := Aside0.mk (Kd.R_lower ho0 (keep_size (w := w) (g := g) (row := none) (by repeat (first | (with_reducible first | exact HK.out | apply KeepBut.set_ | apply keep_drewN | apply keep_drew | apply keep_alloc | refine keep_far ?_ GW646.out _) | exact HK.out)))); have n2_ := Aside0.mk (KeepBut.trans (by repeat (first | (with_reducible first | exact HK.out | apply KeepBut.set_ | apply keep_drewN | apply keep_drew | apply keep_alloc | refine keep_far ?_ GW646.out _) | exact HK.out)) hk (.inl rfl)); have n3_ := Aside0.mk (hb); have n4_ := Aside0.mk (hi); clear BK646; clear HK; clear HB; clear HI0; have BK646 := n0_; have HO651 := n1_; have HK := n2_; have HB := n3_; have HI0 := n4_; clear n0_ n1_ n2_ n3_ n4_; (try clear hb); (try clear hb2); (try clear hk); (try clear hi); (try clear ho0)) | ((with_reducible refine gate_dst (N := 3) rfl ?_); refine box_event ?hg (N := 3) ?hd (cs := #[.int .i64 0, .int .i64 0, .slice none 0 0]) (t := 39) ?hr ?_; (case hd => rfl); (case hg => rfl); (case hr => first | (go_simp; done) | (go_simp; rfl)); intro gb654 hg w8 hbox hb; have n0_ := Aside0.mk (Kd.R_below (by (with_reducible repeat (first | apply Kd.R_alloc | apply Kd.R_drewN | apply Kd.R_drew)); exact HO651.out) hb); have n1_ := Aside0.mk (IsS122.below (by repeat (first | (with_reducible first | exact HI0.out | apply IsS122.alloc | apply IsS122.drewN | apply IsS122.drew | apply IsS122.set_1 | apply IsS122.set_2 | refine IsS122.far ?_ NB0_646.out _) | exact HI0.out)) hb); have n2_ := Aside0.mk (bb_ BK646.out hb); have n3_ := Aside0.mk (KeepBut.trans (by repeat (first | (with_reducible first | exact HK.out | apply KeepBut.set_ | apply keep_drewN | apply keep_drew | apply keep_alloc | refine keep_far ?_ GW646.out _) | exact HK.out)) (KeepBut.of_below hb g none) (.inl rfl)); have n4_ := Aside0.mk (below_step (by repeat (first | (with_reducible first | exact HB.out | apply below_alloc | apply pw_below_drewN | apply below_drew1 | refine below_set ?_ (IsS122.ge HI0.out) | refine below_set ?_ GE646.out) | exact HB.out)) hb); have n5_ := Aside0.mk (hbox); have n6_ := Aside0.mk ((by rw [hg]; exact (keep_size (w := w) (g := g) (row := none) (by repeat (first | (with_reducible first | exact HK.out | apply KeepBut.set_ | apply keep_drewN | apply keep_drew | apply keep_alloc | refine keep_far ?_ GW646.out _) | exact HK.out))) : w.heap.size ≤ gb654)); have n7_ := Aside0.mk ((Nat.le_trans HW0.out (by rw [hg]; exact (keep_size (w := w) (g := g) (row := none) (by repeat (first | (with_reducible first | exact HK.out | apply KeepBut.set_ | apply keep_drewN | apply keep_drew | apply keep_alloc | refine keep_far ?_ GW646.out _) | exact HK.out))) : w.heap.size ≤ gb654) : w0.heap.size ≤ gb654)); have n8_ := Aside0.mk ((bl_ hg BK646.out : gb646 ≠ gb654)); have n9_ := Aside0.mk ((bg_ hg BK646.out : gb654 ≠ gb646)); have n10_ := Aside0.mk ((by rw [hg]; exact Nat.ne_of_lt (IsS122.lt (show IsS122 w0 _ g s0_0 t652 t653 from by repeat (first | (with_reducible first | exact HI0.out | apply IsS122.alloc | apply IsS122.drewN | apply IsS122.drew | apply IsS122.set_1 | apply IsS122.set_2 | refine IsS122.far ?_ NB0_646.out _) | exact HI0.out))) : g ≠ gb654)); have n11_ := Aside0.mk ((by rw [hg]; exact Nat.ne_of_gt (IsS122.lt (show IsS122 w0 _ g s0_0 t652 t653 from by repeat (first | (with_reducible first | exact HI0.out | apply IsS122.alloc | apply IsS122.drewN | apply IsS122.drew | apply IsS122.set_1 | apply IsS122.set_2 | refine IsS122.far ?_ NB0_646.out _) | exact HI0.out))) : gb654 ≠ g)); clear HO651; clear HI0; clear BK646; clear HK; clear HB; have HO651 := n0_; have HI0 := n1_; have BK646 := n2_; have HK := n3_; have HB := n4_; have BK654 := n5_; have GW654 := n6_; have GE654 := n7_; have NB646_654 := n8_; have NB654_646 := n9_; have NB0_654 := n10_; have NB654_0 := n11_; clear n0_ n1_ n2_ n3_ n4_ n5_ n6_ n7_ n8_ n9_ n10_ n11_; clear hb hbox hg; have hnb9 := NB654_646.out; have hnc9 := NB646_654.out; have hnb10 := NB654_0.out; have hnc10 := NB0_654.out; have hcz11_0 := bc_ BK654.out 0 (.int .i64 0) rfl; have hcz11_1 := bc_ BK654.out 1 (.int .i64 0) rfl; have hcz11_2 := bc_ BK654.out 2 (.slice none 0 0) rfl; have hfz11_0 := blk_frozen BK654.out 0; have hfz11_1 := blk_frozen BK654.out 1; have hfz11_2 := blk_frozen BK654.out 2; obtain ⟨Ao12, co12, eo12⟩ := Kd.R_slice HO651.out; subst eo12) | ((with_reducible refine gate_callee (f := 69) rfl ?_); refine goesL_ (some 7) rfl rfl Try.func69 (by kernel_rfl) rfl #[.pointer (some ⟨g, 0, none⟩), .int .i64 25] rfl arr_ ?_; (with_reducible refine (spec_l1Below.calls g s0_0 t652 t653 25 t655 t656 t657 w0 _ ?side1 ?side2 A3.out).mono ?_); (case side1 => repeat (first | (with_reducible first | exact HI0.out | apply IsS122.alloc | apply IsS122.drewN | apply IsS122.drew | apply IsS122.set_1 | apply IsS122.set_2 | refine IsS122.far ?_ NB0_646.out _ | refine IsS122.far ?_ NB0_654.out _) | exact HI0.out)); (case side2 => repeat (first | (with_reducible first | exact HB.out | apply below_alloc | apply pw_below_drewN | apply below_drew1 | refine below_set ?_ (IsS122.ge HI0.out) | refine below_set ?_ GE646.out | refine below_set ?_ GE654.out) | exact HB.out)); rintro e w13 ⟨rfl, hi, hb, hk⟩; refine ⟨_, rfl, ?_⟩; have n0_ := Aside0.mk (KeepBut.blk hk (g' := gb646) (o := .cells #[.int .i64 0, .int .i64 0, .slice none 0 0] 39 (0, 0)) (by (with_reducible repeat (first | refine blk_drewN ?_ _ | refine blk_drew ?_ | refine blk_alloc ?_ _)); refine blk_far ?_ NB646_654.out _; (with_reducible repeat (first | refine blk_drewN ?_ _ | refine blk_drew ?_ | refine blk_alloc ?_ _)); refine blk_far ?_ NB646_654.out _; (with_reducible repeat (first | refine blk_drewN ?_ _ | refine blk_drew ?_ | refine blk_alloc ?_ _)); refine blk_far ?_ NB646_654.out _; (with_reducible repeat (first | refine blk_drewN ?_ _ | refine blk_drew ?_ | refine blk_alloc ?_ _)); exact BK646.out) NB646_0.out (by simp)); have n1_ := Aside0.mk (Kd.R_mono (Kd.R_keep (IsS122.apart (show IsS122 w0 _ g s0_0 t652 t653 from by repeat (first | (with_reducible first | exact HI0.out | apply IsS122.alloc | apply IsS122.drewN | apply IsS122.drew | apply IsS122.set_1 | apply IsS122.set_2 | refine IsS122.far ?_ NB0_646.out _ | refine IsS122.far ?_ NB0_654.out _) | exact HI0.out)) (by (with_reducible repeat (first | apply Kd.R_alloc | apply Kd.R_drewN | apply Kd.R_drew)); exact (Kd.R_mono (Kd.R_far (p := ⟨gb654, 2, none⟩) (Kd.R_far (p := ⟨gb654, 1, none⟩) (Kd.R_far (p := ⟨gb654, 0, none⟩) (Kd.R_types HO651.out BK654.out (by decide)) (fun _ hk => hk.2) (.int .i64 t647)) (fun _ hk => hk.2) (.int .i64 t648)) (fun _ hk => hk.2) (.slice Ao12 t649.length co12)) (fun _ h_ => h_.1))) (by decide)) hk (fun _ h => h.2)) (fun _ h => h.1)); have n2_ := Aside0.mk (KeepBut.blk hk (g' := gb654) (o := .cells #[.int .i64 t647, .int .i64 t648, .slice Ao12 t649.length co12] 39 (0, 0)) (by (with_reducible repeat (first | refine blk_drewN ?_ _ | refine blk_drew ?_ | refine blk_alloc ?_ _)); refine blk_put (cs := #[.int .i64 t647, .int .i64 t648, .slice none 0 0]) ?_ 2 _ rfl; (with_reducible repeat (first | refine blk_drewN ?_ _ | refine blk_drew ?_ | refine blk_alloc ?_ _)); refine blk_put (cs := #[.int .i64 t647, .int .i64 0, .slice none 0 0]) ?_ 1 _ rfl; (with_reducible repeat (first | refine blk_drewN ?_ _ | refine blk_drew ?_ | refine blk_alloc ?_ _)); refine blk_put (cs := #[.int .i64 0, .int .i64 0, .slice none 0 0]) ?_ 0 _ rfl; (with_reducible repeat (first | refine blk_drewN ?_ _ | refine blk_drew ?_ | refine blk_alloc ?_ _)); exact BK654.out) NB654_0.out (by simp)); have n3_ := Aside0.mk (KeepBut.trans (by repeat (first | (with_reducible first | exact HK.out | apply KeepBut.set_ | apply keep_drewN | apply keep_drew | apply keep_alloc | refine keep_far ?_ GW646.out _ | refine keep_far ?_ GW654.out _) | exact HK.out)) hk (.inl rfl)); have n4_ := Aside0.mk (hb); have n5_ := Aside0.mk (hi); clear BK646; clear HO651; clear BK654; clear HK; clear HB; clear HI0; have BK646 := n0_; have HO651 := n1_; have BK654 := n2_; have HK := n3_; have HB := n4_; have HI0 := n5_; clear n0_ n1_ n2_ n3_ n4_ n5_; (try clear hb); (try clear hb2); (try clear hk); (try clear hi)) | ((with_reducible refine gate_callee (f := 70) rfl ?_); refine goesL_ (some 11) rfl rfl Try.func70 (by kernel_rfl) rfl #[.pointer (some ⟨g, 0, none⟩)] rfl arr_ ?_; (with_reducible refine (spec_l2DrawCount.calls g s0_0 t656 t657 t658 t659 t660 w0 _ ?side1 ?side2 A5.out).mono ?_); (case side1 => repeat (first | (with_reducible first | exact HI0.out | apply IsS122.alloc | apply IsS122.drewN | apply IsS122.drew | apply IsS122.set_1 | apply IsS122.set_2 | refine IsS122.far ?_ NB0_646.out _ | refine IsS122.far ?_ NB0_654.out _) | exact HI0.out)); (case side2 => repeat (first | (with_reducible first | exact HB.out | apply below_alloc | apply pw_below_drewN | apply below_drew1 | refine below_set ?_ (IsS122.ge HI0.out) | refine below_set ?_ GE646.out | refine below_set ?_ GE654.out) | exact HB.out)); rintro e w14 ⟨rfl, hi, hb, hk⟩; refine ⟨_, rfl, ?_⟩; have n0_ := Aside0.mk (KeepBut.blk hk (g' := gb646) (o := .cells #[.int .i64 0, .int .i64 0, .slice none 0 0] 39 (0, 0)) (bk_ BK646.out) NB646_0.out (by simp)); have n1_ := Aside0.mk (Kd.R_mono (Kd.R_keep (IsS122.apart (show IsS122 w0 _ g s0_0 t656 t657 from by repeat (first | (with_reducible first | exact HI0.out | apply IsS122.alloc | apply IsS122.drewN | apply IsS122.drew | apply IsS122.set_1 | apply IsS122.set_2 | refine IsS122.far ?_ NB0_646.out _ | refine IsS122.far ?_ NB0_654.out _) | exact HI0.out)) (by (with_reducible repeat (first | apply Kd.R_alloc | apply Kd.R_drewN | apply Kd.R_drew)); exact HO651.out) (by decide)) hk (fun _ h => h.2)) (fun _ h => h.1)); have n2_ := Aside0.mk (KeepBut.blk hk (g' := gb654) (o := .cells #[.int .i64 t647, .int .i64 t648, .slice Ao12 t649.length co12] 39 (0, 0)) (bk_ BK654.out) NB654_0.out (by simp)); have n3_ := Aside0.mk (KeepBut.trans (by repeat (first | (with_reducible first | exact HK.out | apply KeepBut.set_ | apply keep_drewN | apply keep_drew | apply keep_alloc | refine keep_far ?_ GW646.out _ | refine keep_far ?_ GW654.out _) | exact HK.out)) hk (.inl rfl)); have n4_ := Aside0.mk (hb); have n5_ := Aside0.mk (hi); clear BK646; clear HO651; clear BK654; clear HK; clear HB; clear HI0; have BK646 := n0_; have HO651 := n1_; have BK654 := n2_; have HK := n3_; have HB := n4_; have HI0 := n5_; clear n0_ n1_ n2_ n3_ n4_ n5_; (try clear hb); (try clear hb2); (try clear hk); (try clear hi); have hcz15_0 := bc_ BK654.out 0 (.int .i64 t647) rfl; have hcz15_1 := bc_ BK654.out 1 (.int .i64 t648) rfl; have hcz15_2 := bc_ BK654.out 2 (.slice Ao12 t649.length co12) rfl; have hfz15_0 := blk_frozen BK654.out 0; have hfz15_1 := blk_frozen BK654.out 1; have hfz15_2 := blk_frozen BK654.out 2; have hnb16 := NB646_0.out; have hnc16 := NB0_646.out; have hcz17_0 := bc_ BK646.out 0 (.int .i64 0) rfl; have hcz17_1 := bc_ BK646.out 1 (.int .i64 0) rfl; have hcz17_2 := bc_ BK646.out 2 (.slice none 0 0) rfl; have hfz17_0 := blk_frozen BK646.out 0; have hfz17_1 := blk_frozen BK646.out 1; have hfz17_2 := blk_frozen BK646.out 2))
    refine bodyPost_ret (results_cell_row rfl _ _ gb646 39 #[.int .i64 t658, .int .i64 t648, .slice Ao12 t649.length co12] (0, 0) _ rfl (by (with_reducible repeat (first | refine blk_drewN ?_ _ | refine blk_drew ?_ | refine blk_alloc ?_ _)); refine blk_put (cs := #[.int .i64 t658, .int .i64 t648, .slice none 0 0]) ?_ 2 _ rfl; (with_reducible repeat (first | refine blk_drewN ?_ _ | refine blk_drew ?_ | refine blk_alloc ?_ _)); refine blk_put (cs := #[.int .i64 t658, .int .i64 0, .slice none 0 0]) ?_ 1 _ rfl; (with_reducible repeat (first | refine blk_drewN ?_ _ | refine blk_drew ?_ | refine blk_alloc ?_ _)); refine blk_put (cs := #[.int .i64 0, .int .i64 0, .slice none 0 0]) ?_ 0 _ rfl; (with_reducible repeat (first | refine blk_drewN ?_ _ | refine blk_drew ?_ | refine blk_alloc ?_ _)); refine blk_far ?_ NB646_654.out _; (with_reducible repeat (first | refine blk_drewN ?_ _ | refine blk_drew ?_ | refine blk_alloc ?_ _)); exact BK646.out) Try.underlying39 rfl (by kernel_rfl)) rfl ?_
    exact ⟨_, er_, by (with_reducible repeat (first | apply Kd.R_alloc | apply Kd.R_drewN | apply Kd.R_drew)); exact Kd.R_mono (Kd.R_far (p := ⟨gb646, 2, none⟩) (Kd.R_far (p := ⟨gb646, 1, none⟩) (Kd.R_far (p := ⟨gb646, 0, none⟩) (Kd.R_far (p := ⟨gb654, 0, none⟩) (Kd.R_types (Kd.R_types HO651.out BK654.out (by decide)) BK646.out (by decide)) (fun _ hk => hk.1.2) (.int .i64 t658)) (fun _ hk => hk.2) (.int .i64 t658)) (fun _ hk => hk.2) (.int .i64 t648)) (fun _ hk => hk.2) (.slice Ao12 t649.length co12)) (fun _ hk => trivial), by repeat (first | (with_reducible first | exact HI0.out | apply IsS122.alloc | apply IsS122.drewN | apply IsS122.drew | apply IsS122.set_1 | apply IsS122.set_2 | refine IsS122.far ?_ NB0_646.out _ | refine IsS122.far ?_ NB0_654.out _) | exact HI0.out), by repeat (first | (with_reducible first | exact HB.out | apply below_alloc | apply pw_below_drewN | apply below_drew1 | refine below_set ?_ (IsS122.ge HI0.out) | refine below_set ?_ GE646.out | refine below_set ?_ GE654.out) | exact HB.out), by repeat (first | (with_reducible first | exact HK.out | apply KeepBut.set_ | apply keep_drewN | apply keep_drew | apply keep_alloc | refine keep_far ?_ GW646.out _ | refine keep_far ?_ GW654.out _) | exact HK.out)⟩
  · rw [if_neg c4] at H
    have c4b0 : (t655 == 0) = false := beq_eq_false_iff_ne.mpr c4
    have c4b1 : (t655 != 0) = true := bne_iff_ne.mpr c4
    by_cases c18 : t655 = 1
    · rw [if_pos c18] at H
      have c18b0 : (t655 == 1) = true := beq_iff_eq.mpr c18
      have c18b1 : (t655 != 1) = false := bne_eq_false_iff_eq.mpr c18
      clear c18
      obtain ⟨y661, hy661⟩ : ∃ y_ : List Int, y_ = (([(-1), 100000, 100001] : List Int)) := ⟨_, rfl⟩
      replace H : ((spec_l1PickInt.f s0_0 t656 t657 y661).bind fun bt664 => (some (t647, bt664.1, t649, bt664.2.1, bt664.2.2))) = some (r1, r2, r3, r4, r5) := by first | (rw [hy661]; with_reducible exact H) | (have H2_ := (Option.bind_some _ _).symm.trans H; rw [hy661]; with_reducible exact H2_) | (have H2_ := (Option.bind_some _ _).symm.trans H; with_reducible exact H2_) | with_reducible exact H | (rw [hy661]; exact H) | exact H
      have Ny661 := Aside0.mk hy661
      clear hy661
      replace H := Option.bind_eq_some_iff.mp H
      obtain ⟨⟨t664, t665, t666⟩, A190, H⟩ := H
      replace H : (some (t647, t664, t649, t665, t666)) = some (r1, r2, r3, r4, r5) := H
      have A19 := Aside0.mk A190
      clear A190
      simp only [Option.some.injEq, Prod.mk.injEq] at H
      obtain ⟨rfl, rfl, rfl, rfl, rfl⟩ := H
      go_enter Try.func66, Try.ntmps66
      go_wp2_with (first | ((with_reducible refine gate_dst (N := 2) rfl ?_); refine box_event ?hg (N := 2) ?hd (cs := #[.int .i64 0, .int .i64 0, .slice none 0 0]) (t := 39) ?hr ?_; (case hd => rfl); (case hg => rfl); (case hr => first | (go_simp; done) | (go_simp; rfl)); intro gb646 hg w20 hbox hb; have n0_ := Aside0.mk (IsS122.below (by repeat (first | (with_reducible first | exact HI0.out | apply IsS122.alloc | apply IsS122.drewN | apply IsS122.drew | apply IsS122.set_1 | apply IsS122.set_2) | exact HI0.out)) hb); have n1_ := Aside0.mk (KeepBut.trans (by repeat (first | (with_reducible first | exact HK.out | apply KeepBut.set_ | apply keep_drewN | apply keep_drew | apply keep_alloc) | exact HK.out)) (KeepBut.of_below hb g none) (.inl rfl)); have n2_ := Aside0.mk (below_step (by repeat (first | (with_reducible first | exact HB.out | apply below_alloc | apply pw_below_drewN | apply below_drew1 | refine below_set ?_ (IsS122.ge HI0.out)) | exact HB.out)) hb); have n3_ := Aside0.mk (hbox); have n4_ := Aside0.mk ((by rw [hg]; exact (keep_size (w := w) (g := g) (row := none) (by repeat (first | (with_reducible first | exact HK.out | apply KeepBut.set_ | apply keep_drewN | apply keep_drew | apply keep_alloc) | exact HK.out))) : w.heap.size ≤ gb646)); have n5_ := Aside0.mk ((Nat.le_trans HW0.out (by rw [hg]; exact (keep_size (w := w) (g := g) (row := none) (by repeat (first | (with_reducible first | exact HK.out | apply KeepBut.set_ | apply keep_drewN | apply keep_drew | apply keep_alloc) | exact HK.out))) : w.heap.size ≤ gb646) : w0.heap.size ≤ gb646)); have n6_ := Aside0.mk ((by rw [hg]; exact Nat.ne_of_lt (IsS122.lt (show IsS122 w0 _ g s0_0 s0_1 s0_2 from by repeat (first | (with_reducible first | exact HI0.out | apply IsS122.alloc | apply IsS122.drewN | apply IsS122.drew | apply IsS122.set_1 | apply IsS122.set_2) | exact HI0.out))) : g ≠ gb646)); have n7_ := Aside0.mk ((by rw [hg]; exact Nat.ne_of_gt (IsS122.lt (show IsS122 w0 _ g s0_0 s0_1 s0_2 from by repeat (first | (with_reducible first | exact HI0.out | apply IsS122.alloc | apply IsS122.drewN | apply IsS122.drew | apply IsS122.set_1 | apply IsS122.set_2) | exact HI0.out))) : gb646 ≠ g)); clear HI0; clear HK; clear HB; have HI0 := n0_; have HK := n1_; have HB := n2_; have BK646 := n3_; have GW646 := n4_; have GE646 := n5_; have NB0_646 := n6_; have NB646_0 := n7_; clear n0_ n1_ n2_ n3_ n4_ n5_ n6_ n7_; clear hb hbox hg) | ((with_reducible refine gate_callee (f := 92) rfl ?_); refine goesL_ (some 5) rfl rfl Try.func92 (by kernel_rfl) rfl #[.pointer (some ⟨g, 0, none⟩)] rfl arr_ ?_; (with_reducible refine (spec_l13DrawPlan.calls k g s0_0 s0_1 s0_2 t647 t648 t649 t652 t653 w0 _ ?side1 ?side2 A2.out).mono ?_); (case side1 => repeat (first | (with_reducible first | exact HI0.out | apply IsS122.alloc | apply IsS122.drewN | apply IsS122.drew | apply IsS122.set_1 | apply IsS122.set_2 | refine IsS122.far ?_ NB0_646.out _) | exact HI0.out)); (case side2 => repeat (first | (with_reducible first | exact HB.out | apply below_alloc | apply pw_below_drewN | apply below_drew1 | refine below_set ?_ (IsS122.ge HI0.out) | refine below_set ?_ GE646.out) | exact HB.out)); rintro e w21 ⟨v650, rfl, ho0, hi, hb, hk⟩; refine ⟨_, rfl, ?_⟩; have n0_ := Aside0.mk (KeepBut.blk hk (g' := gb646) (o := .cells #[.int .i64 0, .int .i64 0, .slice none 0 0] 39 (0, 0)) (bk_ BK646.out) NB646_0.out (by simp)); have n1_ := Aside0.mk (Kd.R_lower ho0 (keep_size (w := w) (g := g) (row := none) (by repeat (first | (with_reducible first | exact HK.out | apply KeepBut.set_ | apply keep_drewN | apply keep_drew | apply keep_alloc | refine keep_far ?_ GW646.out _) | exact HK.out)))); have n2_ := Aside0.mk (KeepBut.trans (by repeat (first | (with_reducible first | exact HK.out | apply KeepBut.set_ | apply keep_drewN | apply keep_drew | apply keep_alloc | refine keep_far ?_ GW646.out _) | exact HK.out)) hk (.inl rfl)); have n3_ := Aside0.mk (hb); have n4_ := Aside0.mk (hi); clear BK646; clear HK; clear HB; clear HI0; have BK646 := n0_; have HO651 := n1_; have HK := n2_; have HB := n3_; have HI0 := n4_; clear n0_ n1_ n2_ n3_ n4_; (try clear hb); (try clear hb2); (try clear hk); (try clear hi); (try clear ho0)) | ((with_reducible refine gate_dst (N := 3) rfl ?_); refine box_event ?hg (N := 3) ?hd (cs := #[.int .i64 0, .int .i64 0, .slice none 0 0]) (t := 39) ?hr ?_; (case hd => rfl); (case hg => rfl); (case hr => first | (go_simp; done) | (go_simp; rfl)); intro gb654 hg w22 hbox hb; have n0_ := Aside0.mk (Kd.R_below (by (with_reducible repeat (first | apply Kd.R_alloc | apply Kd.R_drewN | apply Kd.R_drew)); exact HO651.out) hb); have n1_ := Aside0.mk (IsS122.below (by repeat (first | (with_reducible first | exact HI0.out | apply IsS122.alloc | apply IsS122.drewN | apply IsS122.drew | apply IsS122.set_1 | apply IsS122.set_2 | refine IsS122.far ?_ NB0_646.out _) | exact HI0.out)) hb); have n2_ := Aside0.mk (bb_ BK646.out hb); have n3_ := Aside0.mk (KeepBut.trans (by repeat (first | (with_reducible first | exact HK.out | apply KeepBut.set_ | apply keep_drewN | apply keep_drew | apply keep_alloc | refine keep_far ?_ GW646.out _) | exact HK.out)) (KeepBut.of_below hb g none) (.inl rfl)); have n4_ := Aside0.mk (below_step (by repeat (first | (with_reducible first | exact HB.out | apply below_alloc | apply pw_below_drewN | apply below_drew1 | refine below_set ?_ (IsS122.ge HI0.out) | refine below_set ?_ GE646.out) | exact HB.out)) hb); have n5_ := Aside0.mk (hbox); have n6_ := Aside0.mk ((by rw [hg]; exact (keep_size (w := w) (g := g) (row := none) (by repeat (first | (with_reducible first | exact HK.out | apply KeepBut.set_ | apply keep_drewN | apply keep_drew | apply keep_alloc | refine keep_far ?_ GW646.out _) | exact HK.out))) : w.heap.size ≤ gb654)); have n7_ := Aside0.mk ((Nat.le_trans HW0.out (by rw [hg]; exact (keep_size (w := w) (g := g) (row := none) (by repeat (first | (with_reducible first | exact HK.out | apply KeepBut.set_ | apply keep_drewN | apply keep_drew | apply keep_alloc | refine keep_far ?_ GW646.out _) | exact HK.out))) : w.heap.size ≤ gb654) : w0.heap.size ≤ gb654)); have n8_ := Aside0.mk ((bl_ hg BK646.out : gb646 ≠ gb654)); have n9_ := Aside0.mk ((bg_ hg BK646.out : gb654 ≠ gb646)); have n10_ := Aside0.mk ((by rw [hg]; exact Nat.ne_of_lt (IsS122.lt (show IsS122 w0 _ g s0_0 t652 t653 from by repeat (first | (with_reducible first | exact HI0.out | apply IsS122.alloc | apply IsS122.drewN | apply IsS122.drew | apply IsS122.set_1 | apply IsS122.set_2 | refine IsS122.far ?_ NB0_646.out _) | exact HI0.out))) : g ≠ gb654)); have n11_ := Aside0.mk ((by rw [hg]; exact Nat.ne_of_gt (IsS122.lt (show IsS122 w0 _ g s0_0 t652 t653 from by repeat (first | (with_reducible first | exact HI0.out | apply IsS122.alloc | apply IsS122.drewN | apply IsS122.drew | apply IsS122.set_1 | apply IsS122.set_2 | refine IsS122.far ?_ NB0_646.out _) | exact HI0.out))) : gb654 ≠ g)); clear HO651; clear HI0; clear BK646; clear HK; clear HB; have HO651 := n0_; have HI0 := n1_; have BK646 := n2_; have HK := n3_; have HB := n4_; have BK654 := n5_; have GW654 := n6_; have GE654 := n7_; have NB646_654 := n8_; have NB654_646 := n9_; have NB0_654 := n10_; have NB654_0 := n11_; clear n0_ n1_ n2_ n3_ n4_ n5_ n6_ n7_ n8_ n9_ n10_ n11_; clear hb hbox hg; have hnb23 := NB654_646.out; have hnc23 := NB646_654.out; have hnb24 := NB654_0.out; have hnc24 := NB0_654.out; have hcz25_0 := bc_ BK654.out 0 (.int .i64 0) rfl; have hcz25_1 := bc_ BK654.out 1 (.int .i64 0) rfl; have hcz25_2 := bc_ BK654.out 2 (.slice none 0 0) rfl; have hfz25_0 := blk_frozen BK654.out 0; have hfz25_1 := blk_frozen BK654.out 1; have hfz25_2 := blk_frozen BK654.out 2; obtain ⟨Ao26, co26, eo26⟩ := Kd.R_slice HO651.out; subst eo26) | ((with_reducible refine gate_callee (f := 69) rfl ?_); refine goesL_ (some 7) rfl rfl Try.func69 (by kernel_rfl) rfl #[.pointer (some ⟨g, 0, none⟩), .int .i64 25] rfl arr_ ?_; (with_reducible refine (spec_l1Below.calls g s0_0 t652 t653 25 t655 t656 t657 w0 _ ?side1 ?side2 A3.out).mono ?_); (case side1 => repeat (first | (with_reducible first | exact HI0.out | apply IsS122.alloc | apply IsS122.drewN | apply IsS122.drew | apply IsS122.set_1 | apply IsS122.set_2 | refine IsS122.far ?_ NB0_646.out _ | refine IsS122.far ?_ NB0_654.out _) | exact HI0.out)); (case side2 => repeat (first | (with_reducible first | exact HB.out | apply below_alloc | apply pw_below_drewN | apply below_drew1 | refine below_set ?_ (IsS122.ge HI0.out) | refine below_set ?_ GE646.out | refine below_set ?_ GE654.out) | exact HB.out)); rintro e w27 ⟨rfl, hi, hb, hk⟩; refine ⟨_, rfl, ?_⟩; have n0_ := Aside0.mk (KeepBut.blk hk (g' := gb646) (o := .cells #[.int .i64 0, .int .i64 0, .slice none 0 0] 39 (0, 0)) (by (with_reducible repeat (first | refine blk_drewN ?_ _ | refine blk_drew ?_ | refine blk_alloc ?_ _)); refine blk_far ?_ NB646_654.out _; (with_reducible repeat (first | refine blk_drewN ?_ _ | refine blk_drew ?_ | refine blk_alloc ?_ _)); refine blk_far ?_ NB646_654.out _; (with_reducible repeat (first | refine blk_drewN ?_ _ | refine blk_drew ?_ | refine blk_alloc ?_ _)); refine blk_far ?_ NB646_654.out _; (with_reducible repeat (first | refine blk_drewN ?_ _ | refine blk_drew ?_ | refine blk_alloc ?_ _)); exact BK646.out) NB646_0.out (by simp)); have n1_ := Aside0.mk (Kd.R_mono (Kd.R_keep (IsS122.apart (show IsS122 w0 _ g s0_0 t652 t653 from by repeat (first | (with_reducible first | exact HI0.out | apply IsS122.alloc | apply IsS122.drewN | apply IsS122.drew | apply IsS122.set_1 | apply IsS122.set_2 | refine IsS122.far ?_ NB0_646.out _ | refine IsS122.far ?_ NB0_654.out _) | exact HI0.out)) (by (with_reducible repeat (first | apply Kd.R_alloc | apply Kd.R_drewN | apply Kd.R_drew)); exact (Kd.R_mono (Kd.R_far (p := ⟨gb654, 2, none⟩) (Kd.R_far (p := ⟨gb654, 1, none⟩) (Kd.R_far (p := ⟨gb654, 0, none⟩) (Kd.R_types HO651.out BK654.out (by decide)) (fun _ hk => hk.2) (.int .i64 t647)) (fun _ hk => hk.2) (.int .i64 t648)) (fun _ hk => hk.2) (.slice Ao26 t649.length co26)) (fun _ h_ => h_.1))) (by decide)) hk (fun _ h => h.2)) (fun _ h => h.1)); have n2_ := Aside0.mk (KeepBut.blk hk (g' := gb654) (o := .cells #[.int .i64 t647, .int .i64 t648, .slice Ao26 t649.length co26] 39 (0, 0)) (by (with_reducible repeat (first | refine blk_drewN ?_ _ | refine blk_drew ?_ | refine blk_alloc ?_ _)); refine blk_put (cs := #[.int .i64 t647, .int .i64 t648, .slice none 0 0]) ?_ 2 _ rfl; (with_reducible repeat (first | refine blk_drewN ?_ _ | refine blk_drew ?_ | refine blk_alloc ?_ _)); refine blk_put (cs := #[.int .i64 t647, .int .i64 0, .slice none 0 0]) ?_ 1 _ rfl; (with_reducible repeat (first | refine blk_drewN ?_ _ | refine blk_drew ?_ | refine blk_alloc ?_ _)); refine blk_put (cs := #[.int .i64 0, .int .i64 0, .slice none 0 0]) ?_ 0 _ rfl; (with_reducible repeat (first | refine blk_drewN ?_ _ | refine blk_drew ?_ | refine blk_alloc ?_ _)); exact BK654.out) NB654_0.out (by simp)); have n3_ := Aside0.mk (KeepBut.trans (by repeat (first | (with_reducible first | exact HK.out | apply KeepBut.set_ | apply keep_drewN | apply keep_drew | apply keep_alloc | refine keep_far ?_ GW646.out _ | refine keep_far ?_ GW654.out _) | exact HK.out)) hk (.inl rfl)); have n4_ := Aside0.mk (hb); have n5_ := Aside0.mk (hi); clear BK646; clear HO651; clear BK654; clear HK; clear HB; clear HI0; have BK646 := n0_; have HO651 := n1_; have BK654 := n2_; have HK := n3_; have HB := n4_; have HI0 := n5_; clear n0_ n1_ n2_ n3_ n4_ n5_; (try clear hb); (try clear hb2); (try clear hk); (try clear hi)) | ((with_reducible refine gate_dst (N := 16) rfl ?_); refine Kd.R_lit (Kd.int .i64) _ 3 ?hg (N := 16) ?hd (xs := ([(-1), 100000, 100001] : List Int)) (inner := [.int .i64 (-1), .int .i64 100000, .int .i64 100001]) (ok := fun _ => True) (okp := fun _ => True) ?hr ?hp (fun _ hk => hk) trivial (Below.refl _ _) (Nat.le_refl _) (by simp) ?_; (case hd => rfl); (case hg => rfl); (case hr => first | (go_simp; done) | (go_simp; rfl)); (case hp => exact (Reps.one (show Kd.M (Kd.int .i64) _ _ _ (-1) [.int .i64 (-1)] from rfl) (Reps.one (show Kd.M (Kd.int .i64) _ _ _ 100000 [.int .i64 100000] from rfl) (Reps.one (show Kd.M (Kd.int .i64) _ _ _ 100001 [.int .i64 100001] from rfl) (Reps.none _ _))))); intro v662 w28 ho29 hb hg_ hnew_; clear hg_ hnew_; (first | rw [← Ny661.out] at ho29 | (simp only [Int.reduceToNat] at ho29; rw [← Ny661.out] at ho29)); have n0_ := Aside0.mk (Kd.R_below (by (with_reducible repeat (first | apply Kd.R_alloc | apply Kd.R_drewN | apply Kd.R_drew)); exact HO651.out) hb); have n1_ := Aside0.mk (Kd.R_lower ho29 (keep_size (w := w) (g := g) (row := none) (by repeat (first | (with_reducible first | exact HK.out | apply KeepBut.set_ | apply keep_drewN | apply keep_drew | apply keep_alloc | refine keep_far ?_ GW646.out _ | refine keep_far ?_ GW654.out _) | exact HK.out)))); have n2_ := Aside0.mk (IsS122.below (by repeat (first | (with_reducible first | exact HI0.out | apply IsS122.alloc | apply IsS122.drewN | apply IsS122.drew | apply IsS122.set_1 | apply IsS122.set_2 | refine IsS122.far ?_ NB0_646.out _ | refine IsS122.far ?_ NB0_654.out _) | exact HI0.out)) hb); have n3_ := Aside0.mk (bb_ BK646.out hb); have n4_ := Aside0.mk (bb_ BK654.out hb); have n5_ := Aside0.mk (KeepBut.trans (by repeat (first | (with_reducible first | exact HK.out | apply KeepBut.set_ | apply keep_drewN | apply keep_drew | apply keep_alloc | refine keep_far ?_ GW646.out _ | refine keep_far ?_ GW654.out _) | exact HK.out)) (KeepBut.of_below hb g none) (.inl rfl)); have n6_ := Aside0.mk (below_step (by repeat (first | (with_reducible first | exact HB.out | apply below_alloc | apply pw_below_drewN | apply below_drew1 | refine below_set ?_ (IsS122.ge HI0.out) | refine below_set ?_ GE646.out | refine below_set ?_ GE654.out) | exact HB.out)) hb); clear HO651; clear HI0; clear BK646; clear BK654; clear HK; clear HB; have HO651 := n0_; have HO663 := n1_; have HI0 := n2_; have BK646 := n3_; have BK654 := n4_; have HK := n5_; have HB := n6_; clear n0_ n1_ n2_ n3_ n4_ n5_ n6_; clear hb ho29; obtain ⟨Ao30, co30, eo30⟩ := Kd.R_slice HO663.out; subst eo30) | ((with_reducible refine gate_callee (f := 91) rfl ?_); refine goesL_ (some 17) rfl rfl Try.func91 (by kernel_rfl) rfl #[.pointer (some ⟨g, 0, none⟩), .slice Ao30 y661.length co30] rfl arr_ ?_; (with_reducible refine (spec_l1PickInt.calls g s0_0 t656 t657 _ _ y661 t664 t665 t666 w0 _ ?side1 ?side2 ?side3 ?side4 ?side5 A19.out).mono ?_); (case side1 => repeat (first | (with_reducible first | exact HI0.out | apply IsS122.alloc | apply IsS122.drewN | apply IsS122.drew | apply IsS122.set_1 | apply IsS122.set_2 | refine IsS122.far ?_ NB0_646.out _ | refine IsS122.far ?_ NB0_654.out _) | exact HI0.out)); (case side2 => repeat (first | (with_reducible first | exact HB.out | apply below_alloc | apply pw_below_drewN | apply below_drew1 | refine below_set ?_ (IsS122.ge HI0.out) | refine below_set ?_ GE646.out | refine below_set ?_ GE654.out) | exact HB.out)); (case side3 => repeat (first | exact (Kd.R_reads' HO663.out).2.2 | (with_reducible refine Kd.C_alloc ?_ _) | (with_reducible refine Kd.C_drewN ?_ _) | (with_reducible refine Kd.C_drew ?_))); (case side4 => exact (Kd.R_reads' HO663.out).2.1); (case side5 => exact far_slice (IsS122.own_ne HI0.out HO663.out (by decide))); rintro e w31 ⟨rfl, hi, hb, hk⟩; refine ⟨_, rfl, ?_⟩; have n0_ := Aside0.mk (KeepBut.blk hk (g' := gb646) (o := .cells #[.int .i64 0, .int .i64 0, .slice none 0 0] 39 (0, 0)) (bk_ BK646.out) NB646_0.out (by simp)); have n1_ := Aside0.mk (Kd.R_mono (Kd.R_keep (IsS122.apart (show IsS122 w0 _ g s0_0 t656 t657 from by repeat (first | (with_reducible first | exact HI0.out | apply IsS122.alloc | apply IsS122.drewN | apply IsS122.drew | apply IsS122.set_1 | apply IsS122.set_2 | refine IsS122.far ?_ NB0_646.out _ | refine IsS122.far ?_ NB0_654.out _) | exact HI0.out)) (by (with_reducible repeat (first | apply Kd.R_alloc | apply Kd.R_drewN | apply Kd.R_drew)); exact HO651.out) (by decide)) hk (fun _ h => h.2)) (fun _ h => h.1)); have n2_ := Aside0.mk (KeepBut.blk hk (g' := gb654) (o := .cells #[.int .i64 t647, .int .i64 t648, .slice Ao26 t649.length co26] 39 (0, 0)) (bk_ BK654.out) NB654_0.out (by simp)); have n3_ := Aside0.mk (Kd.R_mono (Kd.R_keep (IsS122.apart (show IsS122 w0 _ g s0_0 t656 t657 from by repeat (first | (with_reducible first | exact HI0.out | apply IsS122.alloc | apply IsS122.drewN | apply IsS122.drew | apply IsS122.set_1 | apply IsS122.set_2 | refine IsS122.far ?_ NB0_646.out _ | refine IsS122.far ?_ NB0_654.out _) | exact HI0.out)) (by (with_reducible repeat (first | apply Kd.R_alloc | apply Kd.R_drewN | apply Kd.R_drew)); exact HO663.out) (by decide)) hk (fun _ h => h.2)) (fun _ h => h.1)); have n4_ := Aside0.mk (KeepBut.trans (by repeat (first | (with_reducible first | exact HK.out | apply KeepBut.set_ | apply keep_drewN | apply keep_drew | apply keep_alloc | refine keep_far ?_ GW646.out _ | refine keep_far ?_ GW654.out _) | exact HK.out)) hk (.inl rfl)); have n5_ := Aside0.mk (hb); have n6_ := Aside0.mk (hi); clear BK646; clear HO651; clear BK654; clear HO663; clear HK; clear HB; clear HI0; have BK646 := n0_; have HO651 := n1_; have BK654 := n2_; have HO663 := n3_; have HK := n4_; have HB := n5_; have HI0 := n6_; clear n0_ n1_ n2_ n3_ n4_ n5_ n6_; (try clear hb); (try clear hb2); (try clear hk); (try clear hi); have hcz32_0 := bc_ BK654.out 0 (.int .i64 t647) rfl; have hcz32_1 := bc_ BK654.out 1 (.int .i64 t648) rfl; have hcz32_2 := bc_ BK654.out 2 (.slice Ao26 t649.length co26) rfl; have hfz32_0 := blk_frozen BK654.out 0; have hfz32_1 := blk_frozen BK654.out 1; have hfz32_2 := blk_frozen BK654.out 2; have hnb33 := NB646_0.out; have hnc33 := NB0_646.out; have hcz34_0 := bc_ BK646.out 0 (.int .i64 0) rfl; have hcz34_1 := bc_ BK646.out 1 (.int .i64 0) rfl; have hcz34_2 := bc_ BK646.out 2 (.slice none 0 0) rfl; have hfz34_0 := blk_frozen BK646.out 0; have hfz34_1 := blk_frozen BK646.out 1; have hfz34_2 := blk_frozen BK646.out 2))
      refine bodyPost_ret (results_cell_row rfl _ _ gb646 39 #[.int .i64 t647, .int .i64 t664, .slice Ao26 t649.length co26] (0, 0) _ rfl (by (with_reducible repeat (first | refine blk_drewN ?_ _ | refine blk_drew ?_ | refine blk_alloc ?_ _)); refine blk_put (cs := #[.int .i64 t647, .int .i64 t664, .slice none 0 0]) ?_ 2 _ rfl; (with_reducible repeat (first | refine blk_drewN ?_ _ | refine blk_drew ?_ | refine blk_alloc ?_ _)); refine blk_put (cs := #[.int .i64 t647, .int .i64 0, .slice none 0 0]) ?_ 1 _ rfl; (with_reducible repeat (first | refine blk_drewN ?_ _ | refine blk_drew ?_ | refine blk_alloc ?_ _)); refine blk_put (cs := #[.int .i64 0, .int .i64 0, .slice none 0 0]) ?_ 0 _ rfl; (with_reducible repeat (first | refine blk_drewN ?_ _ | refine blk_drew ?_ | refine blk_alloc ?_ _)); refine blk_far ?_ NB646_654.out _; (with_reducible repeat (first | refine blk_drewN ?_ _ | refine blk_drew ?_ | refine blk_alloc ?_ _)); exact BK646.out) Try.underlying39 rfl (by kernel_rfl)) rfl ?_
      exact ⟨_, er_, by (with_reducible repeat (first | apply Kd.R_alloc | apply Kd.R_drewN | apply Kd.R_drew)); exact Kd.R_mono (Kd.R_far (p := ⟨gb646, 2, none⟩) (Kd.R_far (p := ⟨gb646, 1, none⟩) (Kd.R_far (p := ⟨gb646, 0, none⟩) (Kd.R_far (p := ⟨gb654, 1, none⟩) (Kd.R_types (Kd.R_types HO651.out BK654.out (by decide)) BK646.out (by decide)) (fun _ hk => hk.1.2) (.int .i64 t664)) (fun _ hk => hk.2) (.int .i64 t647)) (fun _ hk => hk.2) (.int .i64 t664)) (fun _ hk => hk.2) (.slice Ao26 t649.length co26)) (fun _ hk => trivial), by repeat (first | (with_reducible first | exact HI0.out | apply IsS122.alloc | apply IsS122.drewN | apply IsS122.drew | apply IsS122.set_1 | apply IsS122.set_2 | refine IsS122.far ?_ NB0_646.out _ | refine IsS122.far ?_ NB0_654.out _) | exact HI0.out), by repeat (first | (with_reducible first | exact HB.out | apply below_alloc | apply pw_below_drewN | apply below_drew1 | refine below_set ?_ (IsS122.ge HI0.out) | refine below_set ?_ GE646.out | refine below_set ?_ GE654.out) | exact HB.out), by repeat (first | (with_reducible first | exact HK.out | apply KeepBut.set_ | apply keep_drewN | apply keep_drew | apply keep_alloc | refine keep_far ?_ GW646.out _ | refine keep_far ?_ GW654.out _) | exact HK.out)⟩
    · rw [if_neg c18] at H
      have c18b0 : (t655 == 1) = false := beq_eq_false_iff_ne.mpr c18
      have c18b1 : (t655 != 1) = true := bne_iff_ne.mpr c18
      by_cases c35 : t655 = 2
      · rw [if_pos c35] at H
        have c35b0 : (t655 == 2) = true := beq_iff_eq.mpr c35
        have c35b1 : (t655 != 2) = false := bne_eq_false_iff_eq.mpr c35
        clear c35
        obtain ⟨y667, hy667⟩ : ∃ y_ : List Int, y_ = (([(-1), 8, 7] : List Int)) := ⟨_, rfl⟩
        replace H : ((spec_l1PickInt.f s0_0 t656 t657 y667).bind fun bt670 => (if 0 < (t649.length : Int) then (some (t647, t648, (t649.set (0 : Int).toNat (⟨bt670.1, (rd_T79 t649 0).f1⟩ : S79)), bt670.2.1, bt670.2.2)) else (none))) = some (r1, r2, r3, r4, r5) := by first | (rw [hy667]; with_reducible exact H) | (have H2_ := (Option.bind_some _ _).symm.trans H; rw [hy667]; with_reducible exact H2_) | (have H2_ := (Option.bind_some _ _).symm.trans H; with_reducible exact H2_) | with_reducible exact H | (rw [hy667]; exact H) | exact H
        have Ny667 := Aside0.mk hy667
        clear hy667
        replace H := Option.bind_eq_some_iff.mp H
        obtain ⟨⟨t670, t671, t672⟩, A360, H⟩ := H
        replace H : (if 0 < (t649.length : Int) then (some (t647, t648, (t649.set (0 : Int).toNat (⟨t670, (rd_T79 t649 0).f1⟩ : S79)), t671, t672)) else (none)) = some (r1, r2, r3, r4, r5) := H
        have A36 := Aside0.mk A360
        clear A360
        by_cases c37 : 0 < (t649.length : Int)
        · rw [if_pos c37] at H
          have c37b0 : decide (0 < (t649.length : Int)) = true := decide_eq_true c37
          have c37b1 : decide (0 < t649.length) = true := decide_eq_true (by omega)
          clear c37
          obtain ⟨y673, hy673⟩ : ∃ y_ : List (S79), y_ = (t649.set (0 : Int).toNat (⟨t670, (rd_T79 t649 0).f1⟩ : S79)) := ⟨_, rfl⟩
          replace H : (some (t647, t648, y673, t671, t672)) = some (r1, r2, r3, r4, r5) := by first | (rw [hy673]; with_reducible exact H) | (have H2_ := (Option.bind_some _ _).symm.trans H; rw [hy673]; with_reducible exact H2_) | (have H2_ := (Option.bind_some _ _).symm.trans H; with_reducible exact H2_) | with_reducible exact H | (rw [hy673]; exact H) | exact H
          have Ny673 := Aside0.mk hy673
          clear hy673
          simp only [Option.some.injEq, Prod.mk.injEq] at H
          obtain ⟨rfl, rfl, rfl, rfl, rfl⟩ := H
          go_enter Try.func66, Try.ntmps66
          try go_wp2_with (first | ((with_reducible refine gate_dst (N := 2) rfl ?_); refine box_event ?hg (N := 2) ?hd (cs := #[.int .i64 0, .int .i64 0, .slice none 0 0]) (t := 39) ?hr ?_; (case hd => rfl); (case hg => rfl); (case hr => first | (go_simp; done) | (go_simp; rfl)); intro gb646 hg w39 hbox hb; have n0_ := Aside0.mk (IsS122.below (by repeat (first | (with_reducible first | exact HI0.out | apply IsS122.alloc | apply IsS122.drewN | apply IsS122.drew | apply IsS122.set_1 | apply IsS122.set_2) | exact HI0.out)) hb); have n1_ := Aside0.mk (KeepBut.trans (by repeat (first | (with_reducible first | exact HK.out | apply KeepBut.set_ | apply keep_drewN | apply keep_drew | apply keep_alloc) | exact HK.out)) (KeepBut.of_below hb g none) (.inl rfl)); have n2_ := Aside0.mk (below_step (by repeat (first | (with_reducible first | exact HB.out | apply below_alloc | apply pw_below_drewN | apply below_drew1 | refine below_set ?_ (IsS122.ge HI0.out)) | exact HB.out)) hb); have n3_ := Aside0.mk (hbox); have n4_ := Aside0.mk ((by rw [hg]; exact (keep_size (w := w) (g := g) (row := none) (by repeat (first | (with_reducible first | exact HK.out | apply KeepBut.set_ | apply keep_drewN | apply keep_drew | apply keep_alloc) | exact HK.out))) : w.heap.size ≤ gb646)); have n5_ := Aside0.mk ((Nat.le_trans HW0.out (by rw [hg]; exact (keep_size (w := w) (g := g) (row := none) (by repeat (first | (with_reducible first | exact HK.out | apply KeepBut.set_ | apply keep_drewN | apply keep_drew | apply keep_alloc) | exact HK.out))) : w.heap.size ≤ gb646) : w0.heap.size ≤ gb646)); have n6_ := Aside0.mk ((by rw [hg]; exact Nat.ne_of_lt (IsS122.lt (show IsS122 w0 _ g s0_0 s0_1 s0_2 from by repeat (first | (with_reducible first | exact HI0.out | apply IsS122.alloc | apply IsS122.drewN | apply IsS122.drew | apply IsS122.set_1 | apply IsS122.set_2) | exact HI0.out))) : g ≠ gb646)); have n7_ := Aside0.mk ((by rw [hg]; exact Nat.ne_of_gt (IsS122.lt (show IsS122 w0 _ g s0_0 s0_1 s0_2 from by repeat (first | (with_reducible first | exact HI0.out | apply IsS122.alloc | apply IsS122.drewN | apply IsS122.drew | apply IsS122.set_1 | apply IsS122.set_2) | exact HI0.out))) : gb646 ≠ g)); clear HI0; clear HK; clear HB; have HI0 := n0_; have HK := n1_; have HB := n2_; have BK646 := n3_; have GW646 := n4_; have GE646 := n5_; have NB0_646 := n6_; have NB646_0 := n7_; clear n0_ n1_ n2_ n3_ n4_ n5_ n6_ n7_; clear hb hbox hg) | ((with_reducible refine gate_callee (f := 92) rfl ?_); refine goesL_ (some 5) rfl rfl Try.func92 (by kernel_rfl) rfl #[.pointer (some ⟨g, 0, none⟩)] rfl arr_ ?_; (with_reducible refine (spec_l13DrawPlan.calls k g s0_0 s0_1 s0_2 t647 t648 t649 t652 t653 w0 _ ?side1 ?side2 A2.out).mono ?_); (case side1 => repeat (first | (with_reducible first | exact HI0.out | apply IsS122.alloc | apply IsS122.drewN | apply IsS122.drew | apply IsS122.set_1 | apply IsS122.set_2 | refine IsS122.far ?_ NB0_646.out _) | exact HI0.out)); (case side2 => repeat (first | (with_reducible first | exact HB.out | apply below_alloc | apply pw_below_drewN | apply below_drew1 | refine below_set ?_ (IsS122.ge HI0.out) | refine below_set ?_ GE646.out) | exact HB.out)); rintro e w40 ⟨v650, rfl, ho0, hi, hb, hk⟩; refine ⟨_, rfl, ?_⟩; have n0_ := Aside0.mk (KeepBut.blk hk (g' := gb646) (o := .cells #[.int .i64 0, .int .i64 0, .slice none 0 0] 39 (0, 0)) (bk_ BK646.out) NB646_0.out (by simp)); have n1_ := Aside0.mk (Kd.R_lower ho0 (keep_size (w := w) (g := g) (row := none) (by repeat (first | (with_reducible first | exact HK.out | apply KeepBut.set_ | apply keep_drewN | apply keep_drew | apply keep_alloc | refine keep_far ?_ GW646.out _) | exact HK.out)))); have n2_ := Aside0.mk (KeepBut.trans (by repeat (first | (with_reducible first | exact HK.out | apply KeepBut.set_ | apply keep_drewN | apply keep_drew | apply keep_alloc | refine keep_far ?_ GW646.out _) | exact HK.out)) hk (.inl rfl)); have n3_ := Aside0.mk (hb); have n4_ := Aside0.mk (hi); clear BK646; clear HK; clear HB; clear HI0; have BK646 := n0_; have HO651 := n1_; have HK := n2_; have HB := n3_; have HI0 := n4_; clear n0_ n1_ n2_ n3_ n4_; (try clear hb); (try clear hb2); (try clear hk); (try clear hi); (try clear ho0)) | ((with_reducible refine gate_dst (N := 3) rfl ?_); refine box_event ?hg (N := 3) ?hd (cs := #[.int .i64 0, .int .i64 0, .slice none 0 0]) (t := 39) ?hr ?_; (case hd => rfl); (case hg => rfl); (case hr => first | (go_simp; done) | (go_simp; rfl)); intro gb654 hg w41 hbox hb; have n0_ := Aside0.mk (Kd.R_below (by (with_reducible repeat (first | apply Kd.R_alloc | apply Kd.R_drewN | apply Kd.R_drew)); exact HO651.out) hb); have n1_ := Aside0.mk (IsS122.below (by repeat (first | (with_reducible first | exact HI0.out | apply IsS122.alloc | apply IsS122.drewN | apply IsS122.drew | apply IsS122.set_1 | apply IsS122.set_2 | refine IsS122.far ?_ NB0_646.out _) | exact HI0.out)) hb); have n2_ := Aside0.mk (bb_ BK646.out hb); have n3_ := Aside0.mk (KeepBut.trans (by repeat (first | (with_reducible first | exact HK.out | apply KeepBut.set_ | apply keep_drewN | apply keep_drew | apply keep_alloc | refine keep_far ?_ GW646.out _) | exact HK.out)) (KeepBut.of_below hb g none) (.inl rfl)); have n4_ := Aside0.mk (below_step (by repeat (first | (with_reducible first | exact HB.out | apply below_alloc | apply pw_below_drewN | apply below_drew1 | refine below_set ?_ (IsS122.ge HI0.out) | refine below_set ?_ GE646.out) | exact HB.out)) hb); have n5_ := Aside0.mk (hbox); have n6_ := Aside0.mk ((by rw [hg]; exact (keep_size (w := w) (g := g) (row := none) (by repeat (first | (with_reducible first | exact HK.out | apply KeepBut.set_ | apply keep_drewN | apply keep_drew | apply keep_alloc | refine keep_far ?_ GW646.out _) | exact HK.out))) : w.heap.size ≤ gb654)); have n7_ := Aside0.mk ((Nat.le_trans HW0.out (by rw [hg]; exact (keep_size (w := w) (g := g) (row := none) (by repeat (first | (with_reducible first | exact HK.out | apply KeepBut.set_ | apply keep_drewN | apply keep_drew | apply keep_alloc | refine keep_far ?_ GW646.out _) | exact HK.out))) : w.heap.size ≤ gb654) : w0.heap.size ≤ gb654)); have n8_ := Aside0.mk ((bl_ hg BK646.out : gb646 ≠ gb654)); have n9_ := Aside0.mk ((bg_ hg BK646.out : gb654 ≠ gb646)); have n10_ := Aside0.mk ((by rw [hg]; exact Nat.ne_of_lt (IsS122.lt (show IsS122 w0 _ g s0_0 t652 t653 from by repeat (first | (with_reducible first | exact HI0.out | apply IsS122.alloc | apply IsS122.drewN | apply IsS122.drew | apply IsS122.set_1 | apply IsS122.set_2 | refine IsS122.far ?_ NB0_646.out _) | exact HI0.out))) : g ≠ gb654)); have n11_ := Aside0.mk ((by rw [hg]; exact Nat.ne_of_gt (IsS122.lt (show IsS122 w0 _ g s0_0 t652 t653 from by repeat (first | (with_reducible first | exact HI0.out | apply IsS122.alloc | apply IsS122.drewN | apply IsS122.drew | apply IsS122.set_1 | apply IsS122.set_2 | refine IsS122.far ?_ NB0_646.out _) | exact HI0.out))) : gb654 ≠ g)); clear HO651; clear HI0; clear BK646; clear HK; clear HB; have HO651 := n0_; have HI0 := n1_; have BK646 := n2_; have HK := n3_; have HB := n4_; have BK654 := n5_; have GW654 := n6_; have GE654 := n7_; have NB646_654 := n8_; have NB654_646 := n9_; have NB0_654 := n10_; have NB654_0 := n11_; clear n0_ n1_ n2_ n3_ n4_ n5_ n6_ n7_ n8_ n9_ n10_ n11_; clear hb hbox hg; have hnb42 := NB654_646.out; have hnc42 := NB646_654.out; have hnb43 := NB654_0.out; have hnc43 := NB0_654.out; have hcz44_0 := bc_ BK654.out 0 (.int .i64 0) rfl; have hcz44_1 := bc_ BK654.out 1 (.int .i64 0) rfl; have hcz44_2 := bc_ BK654.out 2 (.slice none 0 0) rfl; have hfz44_0 := blk_frozen BK654.out 0; have hfz44_1 := blk_frozen BK654.out 1; have hfz44_2 := blk_frozen BK654.out 2; obtain ⟨Ao45, co45, eo45⟩ := Kd.R_slice HO651.out; subst eo45) | ((with_reducible refine gate_callee (f := 69) rfl ?_); refine goesL_ (some 7) rfl rfl Try.func69 (by kernel_rfl) rfl #[.pointer (some ⟨g, 0, none⟩), .int .i64 25] rfl arr_ ?_; (with_reducible refine (spec_l1Below.calls g s0_0 t652 t653 25 t655 t656 t657 w0 _ ?side1 ?side2 A3.out).mono ?_); (case side1 => repeat (first | (with_reducible first | exact HI0.out | apply IsS122.alloc | apply IsS122.drewN | apply IsS122.drew | apply IsS122.set_1 | apply IsS122.set_2 | refine IsS122.far ?_ NB0_646.out _ | refine IsS122.far ?_ NB0_654.out _) | exact HI0.out)); (case side2 => repeat (first | (with_reducible first | exact HB.out | apply below_alloc | apply pw_below_drewN | apply below_drew1 | refine below_set ?_ (IsS122.ge HI0.out) | refine below_set ?_ GE646.out | refine below_set ?_ GE654.out) | exact HB.out)); rintro e w46 ⟨rfl, hi, hb, hk⟩; refine ⟨_, rfl, ?_⟩; have n0_ := Aside0.mk (KeepBut.blk hk (g' := gb646) (o := .cells #[.int .i64 0, .int .i64 0, .slice none 0 0] 39 (0, 0)) (by (with_reducible repeat (first | refine blk_drewN ?_ _ | refine blk_drew ?_ | refine blk_alloc ?_ _)); refine blk_far ?_ NB646_654.out _; (with_reducible repeat (first | refine blk_drewN ?_ _ | refine blk_drew ?_ | refine blk_alloc ?_ _)); refine blk_far ?_ NB646_654.out _; (with_reducible repeat (first | refine blk_drewN ?_ _ | refine blk_drew ?_ | refine blk_alloc ?_ _)); refine blk_far ?_ NB646_654.out _; (with_reducible repeat (first | refine blk_drewN ?_ _ | refine blk_drew ?_ | refine blk_alloc ?_ _)); exact BK646.out) NB646_0.out (by simp)); have n1_ := Aside0.mk (Kd.R_mono (Kd.R_keep (IsS122.apart (show IsS122 w0 _ g s0_0 t652 t653 from by repeat (first | (with_reducible first | exact HI0.out | apply IsS122.alloc | apply IsS122.drewN | apply IsS122.drew | apply IsS122.set_1 | apply IsS122.set_2 | refine IsS122.far ?_ NB0_646.out _ | refine IsS122.far ?_ NB0_654.out _) | exact HI0.out)) (by (with_reducible repeat (first | apply Kd.R_alloc | apply Kd.R_drewN | apply Kd.R_drew)); exact (Kd.R_mono (Kd.R_far (p := ⟨gb654, 2, none⟩) (Kd.R_far (p := ⟨gb654, 1, none⟩) (Kd.R_far (p := ⟨gb654, 0, none⟩) (Kd.R_types HO651.out BK654.out (by decide)) (fun _ hk => hk.2) (.int .i64 t647)) (fun _ hk => hk.2) (.int .i64 t648)) (fun _ hk => hk.2) (.slice Ao45 t649.length co45)) (fun _ h_ => h_.1))) (by decide)) hk (fun _ h => h.2)) (fun _ h => h.1)); have n2_ := Aside0.mk (KeepBut.blk hk (g' := gb654) (o := .cells #[.int .i64 t647, .int .i64 t648, .slice Ao45 t649.length co45] 39 (0, 0)) (by (with_reducible repeat (first | refine blk_drewN ?_ _ | refine blk_drew ?_ | refine blk_alloc ?_ _)); refine blk_put (cs := #[.int .i64 t647, .int .i64 t648, .slice none 0 0]) ?_ 2 _ rfl; (with_reducible repeat (first | refine blk_drewN ?_ _ | refine blk_drew ?_ | refine blk_alloc ?_ _)); refine blk_put (cs := #[.int .i64 t647, .int .i64 0, .slice none 0 0]) ?_ 1 _ rfl; (with_reducible repeat (first | refine blk_drewN ?_ _ | refine blk_drew ?_ | refine blk_alloc ?_ _)); refine blk_put (cs := #[.int .i64 0, .int .i64 0, .slice none 0 0]) ?_ 0 _ rfl; (with_reducible repeat (first | refine blk_drewN ?_ _ | refine blk_drew ?_ | refine blk_alloc ?_ _)); exact BK654.out) NB654_0.out (by simp)); have n3_ := Aside0.mk (KeepBut.trans (by repeat (first | (with_reducible first | exact HK.out | apply KeepBut.set_ | apply keep_drewN | apply keep_drew | apply keep_alloc | refine keep_far ?_ GW646.out _ | refine keep_far ?_ GW654.out _) | exact HK.out)) hk (.inl rfl)); have n4_ := Aside0.mk (hb); have n5_ := Aside0.mk (hi); clear BK646; clear HO651; clear BK654; clear HK; clear HB; clear HI0; have BK646 := n0_; have HO651 := n1_; have BK654 := n2_; have HK := n3_; have HB := n4_; have HI0 := n5_; clear n0_ n1_ n2_ n3_ n4_ n5_; (try clear hb); (try clear hb2); (try clear hk); (try clear hi)))
          have n0_ := Aside0.mk (Kd.R_drew HO651.out)
          have n1_ := Aside0.mk (blk_drew BK646.out)
          have n2_ := Aside0.mk (blk_drew BK654.out)
          have n3_ := Aside0.mk (IsS122.drew HI0.out)
          have n4_ := Aside0.mk (keep_drew HK.out)
          have n5_ := Aside0.mk (below_drew1 HB.out)
          clear HO651
          clear BK646
          clear BK654
          clear HI0
          clear HK
          clear HB
          have HO651 := n0_
          have BK646 := n1_
          have BK654 := n2_
          have HI0 := n3_
          have HK := n4_
          have HB := n5_
          clear n0_ n1_ n2_ n3_ n4_ n5_
          refine start_ (n := 8) (S := fun w' => w'.cell? ⟨gb654, 0, none⟩ = some (.int .i64 t647) ∧ w'.cell? ⟨gb654, 1, none⟩ = some (.int .i64 t648) ∧ w'.cell? ⟨gb654, 2, none⟩ = some (.slice Ao45 t649.length co45)) (ds := [7]) #[false, false, false, false, false, false, false, false] (by kernel_rfl) rfl rfl ⟨(blk_cell BK654.out 0).trans rfl, (blk_cell BK654.out 1).trans rfl, (blk_cell BK654.out 2).trans rfl⟩ (fun hHeld => ?_); refine with_tabW spec_l13DrawAny.tab8 spec_l13DrawAny.bits8 (fun HT_ HW_ => ?_)
          generalize w46.drew = w47 at HO651 BK646 BK654 HI0 HK HB hHeld ⊢
          refine pure_ (i := 0) (N := some 21) (v := ?_) (a' := ?_) #[true, false, false, false, false, false, false, false] rfl rfl (any_of HT_.out (by kernel_rfl)) (fun _ _ _ h => h) (Or.inl ⟨by rfl, ?_⟩) ?_ ?_
          rotate_left
          · intro w'
            go_simp
            with_reducible rfl
          rotate_left
          · simp only [Act.put, List.setIfInBounds_toArray, List.set_cons_zero, List.set_cons_succ, i64_w, i32_w]
            rfl
          refine pure_ (i := 2) (N := some 23) (v := ?_) (a' := ?_) #[true, false, true, false, false, false, false, false] rfl rfl (any_of HT_.out (by kernel_rfl)) (fun _ _ _ h => h) (Or.inl ⟨by rfl, ?_⟩) ?_ ?_
          rotate_left
          · intro w'
            go_simp
            with_reducible rfl
          rotate_left
          · simp only [Act.put, List.setIfInBounds_toArray, List.set_cons_zero, List.set_cons_succ, i64_w, i32_w]
            rfl
          refine take_ (i := 1) (N := some 22) (v := ?_) (a' := ?_) #[true, true, true, false, false, false, false, false] rfl rfl (take_ofW HT_.out HW_.out (by kernel_rfl)) (fun _ _ _ h => h) (Or.inl ⟨by rfl, ?_⟩) hHeld ?_ ?_
          rotate_left
          · rintro w' ⟨s0, s1, s2⟩
            go_simp
            with_reducible rfl
          rotate_left
          · simp only [Act.put, List.setIfInBounds_toArray, List.set_cons_zero, List.set_cons_succ, i64_w, i32_w]
            rfl
          refine one_ (i := 3) (N := some 24) #[true, true, true, true, false, false, false, false] rfl rfl (one_of HT_.out (by kernel_rfl)) (by decide) (fun K hK => ?_)
          refine Kd.R_lit_step (Kd.int .i64) _ 3 ?hg (N := 24) ?hd (xs := ([(-1), 8, 7] : List Int)) (inner := [.int .i64 (-1), .int .i64 8, .int .i64 7]) (ok := fun _ => True) (okp := fun _ => True) ?hr ?hp (fun _ hk => hk) trivial (Below.refl _ _) (Nat.le_refl _) (by simp) ?_; (case hd => rfl); (case hg => rfl); (case hr => first | (go_simp; done) | (go_simp; rfl)); (case hp => exact (Reps.one (show Kd.M (Kd.int .i64) _ _ _ (-1) [.int .i64 (-1)] from rfl) (Reps.one (show Kd.M (Kd.int .i64) _ _ _ 8 [.int .i64 8] from rfl) (Reps.one (show Kd.M (Kd.int .i64) _ _ _ 7 [.int .i64 7] from rfl) (Reps.none _ _)))))
          intro v668 w48 ho49 hb hg_ hnew_
          clear hg_ hnew_
          (first | rw [← Ny667.out] at ho49 | (simp only [Int.reduceToNat] at ho49; rw [← Ny667.out] at ho49))
          have n0_ := Aside0.mk (Kd.R_below (by (with_reducible repeat (first | apply Kd.R_alloc | apply Kd.R_drewN | apply Kd.R_drew)); exact HO651.out) hb)
          have n1_ := Aside0.mk (Kd.R_lower ho49 (keep_size (w := w) (g := g) (row := none) (by repeat (first | (with_reducible first | exact HK.out | apply KeepBut.set_ | apply keep_drewN | apply keep_drew | apply keep_alloc | refine keep_far ?_ GW646.out _ | refine keep_far ?_ GW654.out _) | exact HK.out))))
          have n2_ := Aside0.mk (IsS122.below (by repeat (first | (with_reducible first | exact HI0.out | apply IsS122.alloc | apply IsS122.drewN | apply IsS122.drew | apply IsS122.set_1 | apply IsS122.set_2 | refine IsS122.far ?_ NB0_646.out _ | refine IsS122.far ?_ NB0_654.out _) | exact HI0.out)) hb)
          have n3_ := Aside0.mk (bb_ BK646.out hb)
          have n4_ := Aside0.mk (bb_ BK654.out hb)
          have n5_ := Aside0.mk (KeepBut.trans (by repeat (first | (with_reducible first | exact HK.out | apply KeepBut.set_ | apply keep_drewN | apply keep_drew | apply keep_alloc | refine keep_far ?_ GW646.out _ | refine keep_far ?_ GW654.out _) | exact HK.out)) (KeepBut.of_below hb g none) (.inl rfl))
          have n6_ := Aside0.mk (below_step (by repeat (first | (with_reducible first | exact HB.out | apply below_alloc | apply pw_below_drewN | apply below_drew1 | refine below_set ?_ (IsS122.ge HI0.out) | refine below_set ?_ GE646.out | refine below_set ?_ GE654.out) | exact HB.out)) hb)
          clear HO651
          clear HI0
          clear BK646
          clear BK654
          clear HK
          clear HB
          have HO651 := n0_
          have HO669 := n1_
          have HI0 := n2_
          have BK646 := n3_
          have BK654 := n4_
          have HK := n5_
          have HB := n6_
          clear n0_ n1_ n2_ n3_ n4_ n5_ n6_
          clear hb ho49
          obtain ⟨Ao50, co50, eo50⟩ := Kd.R_slice HO669.out
          (first | subst eo50 | (injection eo50 with f1_ f2_ f3_; have f4_ := f1_.symm; have f5_ := f3_.symm; clear f1_ f2_ f3_; subst f4_; subst f5_))
          refine hK.out _ _ ⟨(blk_cell BK654.out 0).trans rfl, (blk_cell BK654.out 1).trans rfl, (blk_cell BK654.out 2).trans rfl⟩ (fun hHeld => ?_)
          clear hK K
          refine norm_ (a' := ?_) ?_ ?_
          rotate_left
          · show Act.put _ (some 24) _ = _
            simp only [Act.put, List.setIfInBounds_toArray, List.set_cons_zero, List.set_cons_succ, i64_w, i32_w]
            rfl
          refine one_ (i := 4) (N := some 25) #[true, true, true, true, true, false, false, false] rfl rfl (one_of HT_.out (by kernel_rfl)) (by decide) (fun K hK => ?_)
          refine goes_ Try.func91 (by kernel_rfl) rfl #[.pointer (some ⟨g, 0, none⟩), .slice Ao50 y667.length co50] (by rfl) rfl rfl arr_ ?_
          with_reducible refine (spec_l1PickInt.calls g s0_0 t656 t657 _ _ y667 t670 t671 t672 w0 _ ?side1 ?side2 ?side3 ?side4 ?side5 A36.out).mono ?_
          (case side1 => repeat (first | (with_reducible first | exact HI0.out | apply IsS122.alloc | apply IsS122.drewN | apply IsS122.drew | apply IsS122.set_1 | apply IsS122.set_2 | refine IsS122.far ?_ NB0_646.out _ | refine IsS122.far ?_ NB0_654.out _) | exact HI0.out))
          (case side2 => repeat (first | (with_reducible first | exact HB.out | apply below_alloc | apply pw_below_drewN | apply below_drew1 | refine below_set ?_ (IsS122.ge HI0.out) | refine below_set ?_ GE646.out | refine below_set ?_ GE654.out) | exact HB.out))
          (case side3 => repeat (first | exact (Kd.R_reads' HO669.out).2.2 | (with_reducible refine Kd.C_alloc ?_ _) | (with_reducible refine Kd.C_drewN ?_ _) | (with_reducible refine Kd.C_drew ?_)))
          (case side4 => exact (Kd.R_reads' HO669.out).2.1)
          (case side5 => exact far_slice (IsS122.own_ne HI0.out HO669.out (by decide)))
          rintro e w51 ⟨rfl, hi, hb, hk⟩
          refine ⟨_, rfl, ?_⟩
          have n0_ := Aside0.mk (KeepBut.blk hk (g' := gb646) (o := .cells #[.int .i64 0, .int .i64 0, .slice none 0 0] 39 (0, 0)) (bk_ BK646.out) NB646_0.out (by simp))
          have n1_ := Aside0.mk (Kd.R_mono (Kd.R_keep (IsS122.apart (show IsS122 w0 _ g s0_0 t656 t657 from by repeat (first | (with_reducible first | exact HI0.out | apply IsS122.alloc | apply IsS122.drewN | apply IsS122.drew | apply IsS122.set_1 | apply IsS122.set_2 | refine IsS122.far ?_ NB0_646.out _ | refine IsS122.far ?_ NB0_654.out _) | exact HI0.out)) (by (with_reducible repeat (first | apply Kd.R_alloc | apply Kd.R_drewN | apply Kd.R_drew)); exact HO651.out) (by decide)) hk (fun _ h => h.2)) (fun _ h => h.1))
          have n2_ := Aside0.mk (KeepBut.blk hk (g' := gb654) (o := .cells #[.int .i64 t647, .int .i64 t648, .slice Ao45 t649.length co45] 39 (0, 0)) (bk_ BK654.out) NB654_0.out (by simp))
          have n3_ := Aside0.mk (Kd.R_mono (Kd.R_keep (IsS122.apart (show IsS122 w0 _ g s0_0 t656 t657 from by repeat (first | (with_reducible first | exact HI0.out | apply IsS122.alloc | apply IsS122.drewN | apply IsS122.drew | apply IsS122.set_1 | apply IsS122.set_2 | refine IsS122.far ?_ NB0_646.out _ | refine IsS122.far ?_ NB0_654.out _) | exact HI0.out)) (by (with_reducible repeat (first | apply Kd.R_alloc | apply Kd.R_drewN | apply Kd.R_drew)); exact HO669.out) (by decide)) hk (fun _ h => h.2)) (fun _ h => h.1))
          have n4_ := Aside0.mk (KeepBut.trans (by repeat (first | (with_reducible first | exact HK.out | apply KeepBut.set_ | apply keep_drewN | apply keep_drew | apply keep_alloc | refine keep_far ?_ GW646.out _ | refine keep_far ?_ GW654.out _) | exact HK.out)) hk (.inl rfl))
          have n5_ := Aside0.mk (hb)
          have n6_ := Aside0.mk (hi)
          clear BK646
          clear HO651
          clear BK654
          clear HO669
          clear HK
          clear HB
          clear HI0
          have BK646 := n0_
          have HO651 := n1_
          have BK654 := n2_
          have HO669 := n3_
          have HK := n4_
          have HB := n5_
          have HI0 := n6_
          clear n0_ n1_ n2_ n3_ n4_ n5_ n6_
          (try clear hb)
          (try clear hb2)
          (try clear hk)
          (try clear hi)
          have p38 : 0 ≤ (0 : Int) := (by omega)
          have q38 : (0 : Int) < ((t649.length : Int) : Int) := of_decide_eq_true (by first | (with_reducible assumption) | assumption)
          have qi38 : (0 < t649.length) = True := eq_true (by omega)
          obtain ⟨go38, co38, eo38, gb38, gl38, cl38, HG38⟩ := Kd.R_form HO651.out (by omega)
          (first | cases eo38 | (injection eo38 with ea_ en_ ec_; (first | subst ea_ | (injection ea_ with ea_; subst ea_)); subst ec_; clear en_))
          have GB38 := Aside0.mk gb38
          have GG38 := Aside0.mk HG38
          clear gb38 gl38 HG38
          obtain ⟨ce38, hcl38, hM38, hcc38, hfr38⟩ := Kd.R_elem HO651.out z79 (0 : Int) p38 q38
          obtain rfl := k79_openM hM38
          have hx38_0 : World.cell? _ ⟨go38, (0 : Int).toNat * 2, none⟩ = some (.int .i64 ((rd_T79 t649 0).f0)) := hcc38 0 _ rfl
          have hx38_1 : World.cell? _ ⟨go38, (0 : Int).toNat * 2 + 1, none⟩ = some (.int .i64 ((rd_T79 t649 0).f1)) := hcc38 1 _ rfl
          have hf38_0 : World.frozen? _ ⟨go38, (0 : Int).toNat * 2, none⟩ = false := hfr38 0
          have hf38_1 : World.frozen? _ ⟨go38, (0 : Int).toNat * 2 + 1, none⟩ = false := hfr38 1
          clear hcl38 hcc38 hfr38 hM38
          (try rw [show ((0 : Int)).toNat = 0 from rfl] at hx38_0)
          (try simp only [Nat.reduceMul, Nat.zero_mul, Nat.zero_add, Nat.reduceAdd] at hx38_0)
          (try rw [show ((0 : Int)).toNat = 0 from rfl] at hf38_0)
          (try simp only [Nat.reduceMul, Nat.zero_mul, Nat.zero_add, Nat.reduceAdd] at hf38_0)
          (try rw [show ((0 : Int)).toNat = 0 from rfl] at hx38_1)
          (try simp only [Nat.reduceMul, Nat.zero_mul, Nat.zero_add, Nat.reduceAdd] at hx38_1)
          (try rw [show ((0 : Int)).toNat = 0 from rfl] at hf38_1)
          (try simp only [Nat.reduceMul, Nat.zero_mul, Nat.zero_add, Nat.reduceAdd] at hf38_1)
          replace p38 := eq_true p38
          replace q38 := eq_true q38
          have HN0_go38 := Aside0.mk (show g ≠ go38 from by have h_ := IsS122.own_ne HI0.out HO651.out (by decide); intro e_; exact h_ (by rw [e_]; rfl))
          obtain ⟨ce52, hcl52, hM52, hcc52, hfr52⟩ := Kd.R_elem HO651.out z79 (0 : Int) (by omega) (by have h_ : (0 : Int) < ((t649.length : Int) : Int) := of_decide_eq_true (by first | (with_reducible assumption) | assumption); first | exact h_ | (have e_ := (Kd.R_reads' HO651.out).1; omega) | simpa using h_)
          obtain rfl := k79_openM hM52
          have HP52 := (Kd.R_seg HO651.out (0 : Int) (by omega) (by have h_ : (0 : Int) < ((t649.length : Int) : Int) := of_decide_eq_true (by first | (with_reducible assumption) | assumption); first | exact h_ | (have e_ := (Kd.R_reads' HO651.out).1; omega) | simpa using h_) (seg := [.int .i64 t670]) (j := 0) hcl52 hcc52 (show 1 ≤ 2 from by decide) (x' := (⟨t670, (rd_T79 t649 0).f1⟩ : S79)) (k79_mkM _ _ _ (⟨t670, (rd_T79 t649 0).f1⟩ : S79) ) (fun _ hk => hk)).1
          rw [← Ny673.out] at HP52
          have HQ52 := Aside0.mk HP52
          clear hcl52 hcc52 hfr52 hM52 HP52
          refine hK.out _ _ ⟨(blk_cell BK654.out 0).trans rfl, (blk_cell BK654.out 1).trans rfl, (blk_cell BK654.out 2).trans rfl⟩ (fun hHeld => ?_)
          clear hK K
          refine norm_ (a' := ?_) ?_ ?_
          rotate_left
          · show Act.put _ (some 25) _ = _
            simp only [Act.put, List.setIfInBounds_toArray, List.set_cons_zero, List.set_cons_succ, i64_w, i32_w]
            rfl
          refine pure_ (i := 5) (N := some 26) (v := ?_) (a' := ?_) #[true, true, true, true, true, true, false, false] rfl rfl (any_of HT_.out (by kernel_rfl)) (fun _ _ _ h => h) (Or.inl ⟨by rfl, ?_⟩) ?_ ?_
          rotate_left
          · intro w'
            go_simp
            with_reducible rfl
          rotate_left
          · simp only [Act.put, List.setIfInBounds_toArray, List.set_cons_zero, List.set_cons_succ, i64_w, i32_w]
            rfl
          refine pure_ (i := 6) (N := some 27) (v := ?_) (a' := ?_) #[true, true, true, true, true, true, true, false] rfl rfl (any_of HT_.out (by kernel_rfl)) (fun _ _ _ h => h) (Or.inl ⟨by rfl, ?_⟩) ?_ ?_
          rotate_left
          · intro w'
            go_simp
            with_reducible rfl
          rotate_left
          · simp only [Act.put, List.setIfInBounds_toArray, List.set_cons_zero, List.set_cons_succ, i64_w, i32_w]
            rfl
          refine last_ (i := 7) (N := none) #[true, true, true, true, true, true, true, true] rfl rfl (one_of HT_.out (by kernel_rfl)) (by decide) (fun K hK => ?_)
          refine skip_ (w1 := ?_) (by rfl) rfl ?_ ?_
          rotate_left
          · go_simp
            rfl
          refine hK.out _ _ ?_
          clear hK K
          refine done_ (done_of HT_.out (by kernel_rfl)) ?_
          have n0_ : Aside0 (Kd.R k79 79 (w51.setCell ⟨go38, 0, none⟩ (.int .i64 t670)) w.heap.size (fun _ => True) (.slice (some ⟨go38, 0, none⟩) t649.length co45) y673) := ⟨by (with_reducible repeat (first | apply Kd.R_alloc | apply Kd.R_drewN | apply Kd.R_drew)); exact HQ52.out⟩
          have n1_ : Aside0 (Kd.R (Kd.int .i64) 3 (w51.setCell ⟨go38, 0, none⟩ (.int .i64 t670)) w.heap.size (fun _ => True) (.slice Ao50 y667.length co50) y667) := ⟨by (with_reducible repeat (first | apply Kd.R_alloc | apply Kd.R_drewN | apply Kd.R_drew)); exact Kd.R_mono (Kd.R_far (p := ⟨go38, 0, none⟩) (Kd.R_types HO669.out GG38.out (by decide)) (fun _ hk => hk.2) (.int .i64 t670)) (fun _ hk => trivial)⟩
          have n2_ : Aside0 ((w51.setCell ⟨go38, 0, none⟩ (.int .i64 t670)).heap[gb646]? = some (.cells #[.int .i64 0, .int .i64 0, .slice none 0 0] 39 (0, 0))) := ⟨by (with_reducible repeat (first | refine blk_drewN ?_ _ | refine blk_drew ?_ | refine blk_alloc ?_ _)); refine blk_far ?_ (by have h_ := Kd.R_ne HO651.out BK646.out (by decide); intro e_; exact h_ (by rw [e_]; rfl)) _; (with_reducible repeat (first | refine blk_drewN ?_ _ | refine blk_drew ?_ | refine blk_alloc ?_ _)); exact BK646.out⟩
          have n3_ : Aside0 ((w51.setCell ⟨go38, 0, none⟩ (.int .i64 t670)).heap[gb654]? = some (.cells #[.int .i64 t647, .int .i64 t648, .slice (some ⟨go38, 0, none⟩) t649.length co45] 39 (0, 0))) := ⟨by (with_reducible repeat (first | refine blk_drewN ?_ _ | refine blk_drew ?_ | refine blk_alloc ?_ _)); refine blk_far ?_ (by have h_ := Kd.R_ne HO651.out BK654.out (by decide); intro e_; exact h_ (by rw [e_]; rfl)) _; (with_reducible repeat (first | refine blk_drewN ?_ _ | refine blk_drew ?_ | refine blk_alloc ?_ _)); exact BK654.out⟩
          have n4_ : Aside0 (IsS122 w0 (w51.setCell ⟨go38, 0, none⟩ (.int .i64 t670)) g s0_0 t671 t672) := ⟨by repeat (first | (with_reducible first | exact HI0.out | apply IsS122.alloc | apply IsS122.drewN | apply IsS122.drew | apply IsS122.set_1 | apply IsS122.set_2 | refine IsS122.far ?_ HN0_go38.out _ | refine IsS122.far ?_ NB0_646.out _ | refine IsS122.far ?_ NB0_654.out _) | exact HI0.out)⟩
          have n5_ : Aside0 (KeepBut w (w51.setCell ⟨go38, 0, none⟩ (.int .i64 t670)) g none) := ⟨by repeat (first | (with_reducible first | exact HK.out | apply KeepBut.set_ | apply keep_drewN | apply keep_drew | apply keep_alloc | refine keep_far ?_ GB38.out _ | refine keep_far ?_ GW646.out _ | refine keep_far ?_ GW654.out _) | exact HK.out)⟩
          have n6_ : Aside0 (Below w0.heap.size w0 (w51.setCell ⟨go38, 0, none⟩ (.int .i64 t670))) := ⟨by repeat (first | (with_reducible first | exact HB.out | apply below_alloc | apply pw_below_drewN | apply below_drew1 | refine below_set ?_ (Nat.le_trans HL.out GB38.out) | refine below_set ?_ (IsS122.ge HI0.out) | refine below_set ?_ GE646.out | refine below_set ?_ GE654.out) | exact HB.out)⟩
          (try clear HO651)
          (try clear HO669)
          (try clear BK646)
          (try clear BK654)
          (try clear HI0)
          (try clear HK)
          (try clear HB)
          generalize (w51.setCell ⟨go38, 0, none⟩ (.int .i64 t670)) = w53 at n0_ n1_ n2_ n3_ n4_ n5_ n6_ ⊢
          have HO651 := n0_
          have HO669 := n1_
          have BK646 := n2_
          have BK654 := n3_
          have HI0 := n4_
          have HK := n5_
          have HB := n6_
          clear n0_ n1_ n2_ n3_ n4_ n5_ n6_
          have hcz54_0 := bc_ BK654.out 0 (.int .i64 t647) rfl
          have hcz54_1 := bc_ BK654.out 1 (.int .i64 t648) rfl
          have hcz54_2 : w53.cell? ⟨gb654, 2, none⟩ = some (.slice (some ⟨go38, 0, none⟩) t649.length co45) := (blk_cell BK654.out 2).trans rfl
          have hfz54_0 := blk_frozen BK654.out 0
          have hfz54_1 := blk_frozen BK654.out 1
          have hfz54_2 := blk_frozen BK654.out 2
          have hnb55 := NB646_0.out
          have hnc55 := NB0_646.out
          have hcz56_0 := bc_ BK646.out 0 (.int .i64 0) rfl
          have hcz56_1 := bc_ BK646.out 1 (.int .i64 0) rfl
          have hcz56_2 := bc_ BK646.out 2 (.slice none 0 0) rfl
          have hfz56_0 := blk_frozen BK646.out 0
          have hfz56_1 := blk_frozen BK646.out 1
          have hfz56_2 := blk_frozen BK646.out 2
          try go_wp2
          refine bodyPost_ret (results_cell_row rfl _ _ gb646 39 #[.int .i64 t647, .int .i64 t648, .slice (some ⟨go38, 0, none⟩) t649.length co45] (0, 0) _ rfl (by (with_reducible repeat (first | refine blk_drewN ?_ _ | refine blk_drew ?_ | refine blk_alloc ?_ _)); refine blk_put (cs := #[.int .i64 t647, .int .i64 t648, .slice none 0 0]) ?_ 2 _ rfl; (with_reducible repeat (first | refine blk_drewN ?_ _ | refine blk_drew ?_ | refine blk_alloc ?_ _)); refine blk_put (cs := #[.int .i64 t647, .int .i64 0, .slice none 0 0]) ?_ 1 _ rfl; (with_reducible repeat (first | refine blk_drewN ?_ _ | refine blk_drew ?_ | refine blk_alloc ?_ _)); refine blk_put (cs := #[.int .i64 0, .int .i64 0, .slice none 0 0]) ?_ 0 _ rfl; (with_reducible repeat (first | refine blk_drewN ?_ _ | refine blk_drew ?_ | refine blk_alloc ?_ _)); exact BK646.out) Try.underlying39 rfl (by kernel_rfl)) rfl ?_
          exact ⟨_, er_, by (with_reducible repeat (first | apply Kd.R_alloc | apply Kd.R_drewN | apply Kd.R_drew)); exact Kd.R_mono (Kd.R_far (p := ⟨gb646, 2, none⟩) (Kd.R_far (p := ⟨gb646, 1, none⟩) (Kd.R_far (p := ⟨gb646, 0, none⟩) (Kd.R_types HO651.out BK646.out (by decide)) (fun _ hk => hk.2) (.int .i64 t647)) (fun _ hk => hk.2) (.int .i64 t648)) (fun _ hk => hk.2) (.slice (some ⟨go38, 0, none⟩) t649.length co45)) (fun _ hk => trivial), by repeat (first | (with_reducible first | exact HI0.out | apply IsS122.alloc | apply IsS122.drewN | apply IsS122.drew | apply IsS122.set_1 | apply IsS122.set_2 | refine IsS122.far ?_ NB0_646.out _ | refine IsS122.far ?_ NB0_654.out _) | exact HI0.out), by repeat (first | (with_reducible first | exact HB.out | apply below_alloc | apply pw_below_drewN | apply below_drew1 | refine below_set ?_ (IsS122.ge HI0.out) | refine below_set ?_ GE646.out | refine below_set ?_ GE654.out) | exact HB.out), by repeat (first | (with_reducible first | exact HK.out | apply KeepBut.set_ | apply keep_drewN | apply keep_drew | apply keep_alloc | refine keep_far ?_ GW646.out _ | refine keep_far ?_ GW654.out _) | exact HK.out)⟩
        · rw [if_neg c37] at H
          exact absurd H (by simp)
      · rw [if_neg c35] at H
        have c35b0 : (t655 == 2) = false := beq_eq_false_iff_ne.mpr c35
        have c35b1 : (t655 != 2) = true := bne_iff_ne.mpr c35
        by_cases c57 : t655 = 3
        · rw [if_pos c57] at H
          have c57b0 : (t655 == 3) = true := beq_iff_eq.mpr c57
          have c57b1 : (t655 != 3) = false := bne_eq_false_iff_eq.mpr c57
          clear c57
          obtain ⟨y674, hy674⟩ : ∃ y_ : List Int, y_ = (([0, 1000000, 1000001] : List Int)) := ⟨_, rfl⟩
          replace H : ((spec_l1PickInt.f s0_0 t656 t657 y674).bind fun bt677 => (if 0 < (t649.length : Int) then (some (t647, t648, (t649.set (0 : Int).toNat (⟨(rd_T79 t649 0).f0, bt677.1⟩ : S79)), bt677.2.1, bt677.2.2)) else (none))) = some (r1, r2, r3, r4, r5) := by first | (rw [hy674]; with_reducible exact H) | (have H2_ := (Option.bind_some _ _).symm.trans H; rw [hy674]; with_reducible exact H2_) | (have H2_ := (Option.bind_some _ _).symm.trans H; with_reducible exact H2_) | with_reducible exact H | (rw [hy674]; exact H) | exact H
          have Ny674 := Aside0.mk hy674
          clear hy674
          replace H := Option.bind_eq_some_iff.mp H
          obtain ⟨⟨t677, t678, t679⟩, A580, H⟩ := H
          replace H : (if 0 < (t649.length : Int) then (some (t647, t648, (t649.set (0 : Int).toNat (⟨(rd_T79 t649 0).f0, t677⟩ : S79)), t678, t679)) else (none)) = some (r1, r2, r3, r4, r5) := H
          have A58 := Aside0.mk A580
          clear A580
          by_cases c59 : 0 < (t649.length : Int)
          · rw [if_pos c59] at H
            have c59b0 : decide (0 < (t649.length : Int)) = true := decide_eq_true c59
            have c59b1 : decide (0 < t649.length) = true := decide_eq_true (by omega)
            clear c59
            obtain ⟨y680, hy680⟩ : ∃ y_ : List (S79), y_ = (t649.set (0 : Int).toNat (⟨(rd_T79 t649 0).f0, t677⟩ : S79)) := ⟨_, rfl⟩
            replace H : (some (t647, t648, y680, t678, t679)) = some (r1, r2, r3, r4, r5) := by first | (rw [hy680]; with_reducible exact H) | (have H2_ := (Option.bind_some _ _).symm.trans H; rw [hy680]; with_reducible exact H2_) | (have H2_ := (Option.bind_some _ _).symm.trans H; with_reducible exact H2_) | with_reducible exact H | (rw [hy680]; exact H) | exact H
            have Ny680 := Aside0.mk hy680
            clear hy680
            simp only [Option.some.injEq, Prod.mk.injEq] at H
            obtain ⟨rfl, rfl, rfl, rfl, rfl⟩ := H
            go_enter Try.func66, Try.ntmps66
            try go_wp2_with (first | ((with_reducible refine gate_dst (N := 2) rfl ?_); refine box_event ?hg (N := 2) ?hd (cs := #[.int .i64 0, .int .i64 0, .slice none 0 0]) (t := 39) ?hr ?_; (case hd => rfl); (case hg => rfl); (case hr => first | (go_simp; done) | (go_simp; rfl)); intro gb646 hg w61 hbox hb; have n0_ := Aside0.mk (IsS122.below (by repeat (first | (with_reducible first | exact HI0.out | apply IsS122.alloc | apply IsS122.drewN | apply IsS122.drew | apply IsS122.set_1 | apply IsS122.set_2) | exact HI0.out)) hb); have n1_ := Aside0.mk (KeepBut.trans (by repeat (first | (with_reducible first | exact HK.out | apply KeepBut.set_ | apply keep_drewN | apply keep_drew | apply keep_alloc) | exact HK.out)) (KeepBut.of_below hb g none) (.inl rfl)); have n2_ := Aside0.mk (below_step (by repeat (first | (with_reducible first | exact HB.out | apply below_alloc | apply pw_below_drewN | apply below_drew1 | refine below_set ?_ (IsS122.ge HI0.out)) | exact HB.out)) hb); have n3_ := Aside0.mk (hbox); have n4_ := Aside0.mk ((by rw [hg]; exact (keep_size (w := w) (g := g) (row := none) (by repeat (first | (with_reducible first | exact HK.out | apply KeepBut.set_ | apply keep_drewN | apply keep_drew | apply keep_alloc) | exact HK.out))) : w.heap.size ≤ gb646)); have n5_ := Aside0.mk ((Nat.le_trans HW0.out (by rw [hg]; exact (keep_size (w := w) (g := g) (row := none) (by repeat (first | (with_reducible first | exact HK.out | apply KeepBut.set_ | apply keep_drewN | apply keep_drew | apply keep_alloc) | exact HK.out))) : w.heap.size ≤ gb646) : w0.heap.size ≤ gb646)); have n6_ := Aside0.mk ((by rw [hg]; exact Nat.ne_of_lt (IsS122.lt (show IsS122 w0 _ g s0_0 s0_1 s0_2 from by repeat (first | (with_reducible first | exact HI0.out | apply IsS122.alloc | apply IsS122.drewN | apply IsS122.drew | apply IsS122.set_1 | apply IsS122.set_2) | exact HI0.out))) : g ≠ gb646)); have n7_ := Aside0.mk ((by rw [hg]; exact Nat.ne_of_gt (IsS122.lt (show IsS122 w0 _ g s0_0 s0_1 s0_2 from by repeat (first | (with_reducible first | exact HI0.out | apply IsS122.alloc | apply IsS122.drewN | apply IsS122.drew | apply IsS122.set_1 | apply IsS122.set_2) | exact HI0.out))) : gb646 ≠ g)); clear HI0; clear HK; clear HB; have HI0 := n0_; have HK := n1_; have HB := n2_; have BK646 := n3_; have GW646 := n4_; have GE646 := n5_; have NB0_646 := n6_; have NB646_0 := n7_; clear n0_ n1_ n2_ n3_ n4_ n5_ n6_ n7_; clear hb hbox hg) | ((with_reducible refine gate_callee (f := 92) rfl ?_); refine goesL_ (some 5) rfl rfl Try.func92 (by kernel_rfl) rfl #[.pointer (some ⟨g, 0, none⟩)] rfl arr_ ?_; (with_reducible refine (spec_l13DrawPlan.calls k g s0_0 s0_1 s0_2 t647 t648 t649 t652 t653 w0 _ ?side1 ?side2 A2.out).mono ?_); (case side1 => repeat (first | (with_reducible first | exact HI0.out | apply IsS122.alloc | apply IsS122.drewN | apply IsS122.drew | apply IsS122.set_1 | apply IsS122.set_2 | refine IsS122.far ?_ NB0_646.out _) | exact HI0.out)); (case side2 => repeat (first | (with_reducible first | exact HB.out | apply below_alloc | apply pw_below_drewN | apply below_drew1 | refine below_set ?_ (IsS122.ge HI0.out) | refine below_set ?_ GE646.out) | exact HB.out)); rintro e w62 ⟨v650, rfl, ho0, hi, hb, hk⟩; refine ⟨_, rfl, ?_⟩; have n0_ := Aside0.mk (KeepBut.blk hk (g' := gb646) (o := .cells #[.int .i64 0, .int .i64 0, .slice none 0 0] 39 (0, 0)) (bk_ BK646.out) NB646_0.out (by simp)); have n1_ := Aside0.mk (Kd.R_lower ho0 (keep_size (w := w) (g := g) (row := none) (by repeat (first | (with_reducible first | exact HK.out | apply KeepBut.set_ | apply keep_drewN | apply keep_drew | apply keep_alloc | refine keep_far ?_ GW646.out _) | exact HK.out)))); have n2_ := Aside0.mk (KeepBut.trans (by repeat (first | (with_reducible first | exact HK.out | apply KeepBut.set_ | apply keep_drewN | apply keep_drew | apply keep_alloc | refine keep_far ?_ GW646.out _) | exact HK.out)) hk (.inl rfl)); have n3_ := Aside0.mk (hb); have n4_ := Aside0.mk (hi); clear BK646; clear HK; clear HB; clear HI0; have BK646 := n0_; have HO651 := n1_; have HK := n2_; have HB := n3_; have HI0 := n4_; clear n0_ n1_ n2_ n3_ n4_; (try clear hb); (try clear hb2); (try clear hk); (try clear hi); (try clear ho0)) | ((with_reducible refine gate_dst (N := 3) rfl ?_); refine box_event ?hg (N := 3) ?hd (cs := #[.int .i64 0, .int .i64 0, .slice none 0 0]) (t := 39) ?hr ?_; (case hd => rfl); (case hg => rfl); (case hr => first | (go_simp; done) | (go_simp; rfl)); intro gb654 hg w63 hbox hb; have n0_ := Aside0.mk (Kd.R_below (by (with_reducible repeat (first | apply Kd.R_alloc | apply Kd.R_drewN | apply Kd.R_drew)); exact HO651.out) hb); have n1_ := Aside0.mk (IsS122.below (by repeat (first | (with_reducible first | exact HI0.out | apply IsS122.alloc | apply IsS122.drewN | apply IsS122.drew | apply IsS122.set_1 | apply IsS122.set_2 | refine IsS122.far ?_ NB0_646.out _) | exact HI0.out)) hb); have n2_ := Aside0.mk (bb_ BK646.out hb); have n3_ := Aside0.mk (KeepBut.trans (by repeat (first | (with_reducible first | exact HK.out | apply KeepBut.set_ | apply keep_drewN | apply keep_drew | apply keep_alloc | refine keep_far ?_ GW646.out _) | exact HK.out)) (KeepBut.of_below hb g none) (.inl rfl)); have n4_ := Aside0.mk (below_step (by repeat (first | (with_reducible first | exact HB.out | apply below_alloc | apply pw_below_drewN | apply below_drew1 | refine below_set ?_ (IsS122.ge HI0.out) | refine below_set ?_ GE646.out) | exact HB.out)) hb); have n5_ := Aside0.mk (hbox); have n6_ := Aside0.mk ((by rw [hg]; exact (keep_size (w := w) (g := g) (row := none) (by repeat (first | (with_reducible first | exact HK.out | apply KeepBut.set_ | apply keep_drewN | apply keep_drew | apply keep_alloc | refine keep_far ?_ GW646.out _) | exact HK.out))) : w.heap.size ≤ gb654)); have n7_ := Aside0.mk ((Nat.le_trans HW0.out (by rw [hg]; exact (keep_size (w := w) (g := g) (row := none) (by repeat (first | (with_reducible first | exact HK.out | apply KeepBut.set_ | apply keep_drewN | apply keep_drew | apply keep_alloc | refine keep_far ?_ GW646.out _) | exact HK.out))) : w.heap.size ≤ gb654) : w0.heap.size ≤ gb654)); have n8_ := Aside0.mk ((bl_ hg BK646.out : gb646 ≠ gb654)); have n9_ := Aside0.mk ((bg_ hg BK646.out : gb654 ≠ gb646)); have n10_ := Aside0.mk ((by rw [hg]; exact Nat.ne_of_lt (IsS122.lt (show IsS122 w0 _ g s0_0 t652 t653 from by repeat (first | (with_reducible first | exact HI0.out | apply IsS122.alloc | apply IsS122.drewN | apply IsS122.drew | apply IsS122.set_1 | apply IsS122.set_2 | refine IsS122.far ?_ NB0_646.out _) | exact HI0.out))) : g ≠ gb654)); have n11_ := Aside0.mk ((by rw [hg]; exact Nat.ne_of_gt (IsS122.lt (show IsS122 w0 _ g s0_0 t652 t653 from by repeat (first | (with_reducible first | exact HI0.out | apply IsS122.alloc | apply IsS122.drewN | apply IsS122.drew | apply IsS122.set_1 | apply IsS122.set_2 | refine IsS122.far ?_ NB0_646.out _) | exact HI0.out))) : gb654 ≠ g)); clear HO651; clear HI0; clear BK646; clear HK; clear HB; have HO651 := n0_; have HI0 := n1_; have BK646 := n2_; have HK := n3_; have HB := n4_; have BK654 := n5_; have GW654 := n6_; have GE654 := n7_; have NB646_654 := n8_; have NB654_646 := n9_; have NB0_654 := n10_; have NB654_0 := n11_; clear n0_ n1_ n2_ n3_ n4_ n5_ n6_ n7_ n8_ n9_ n10_ n11_; clear hb hbox hg; have hnb64 := NB654_646.out; have hnc64 := NB646_654.out; have hnb65 := NB654_0.out; have hnc65 := NB0_654.out; have hcz66_0 := bc_ BK654.out 0 (.int .i64 0) rfl; have hcz66_1 := bc_ BK654.out 1 (.int .i64 0) rfl; have hcz66_2 := bc_ BK654.out 2 (.slice none 0 0) rfl; have hfz66_0 := blk_frozen BK654.out 0; have hfz66_1 := blk_frozen BK654.out 1; have hfz66_2 := blk_frozen BK654.out 2; obtain ⟨Ao67, co67, eo67⟩ := Kd.R_slice HO651.out; subst eo67) | ((with_reducible refine gate_callee (f := 69) rfl ?_); refine goesL_ (some 7) rfl rfl Try.func69 (by kernel_rfl) rfl #[.pointer (some ⟨g, 0, none⟩), .int .i64 25] rfl arr_ ?_; (with_reducible refine (spec_l1Below.calls g s0_0 t652 t653 25 t655 t656 t657 w0 _ ?side1 ?side2 A3.out).mono ?_); (case side1 => repeat (first | (with_reducible first | exact HI0.out | apply IsS122.alloc | apply IsS122.drewN | apply IsS122.drew | apply IsS122.set_1 | apply IsS122.set_2 | refine IsS122.far ?_ NB0_646.out _ | refine IsS122.far ?_ NB0_654.out _) | exact HI0.out)); (case side2 => repeat (first | (with_reducible first | exact HB.out | apply below_alloc | apply pw_below_drewN | apply below_drew1 | refine below_set ?_ (IsS122.ge HI0.out) | refine below_set ?_ GE646.out | refine below_set ?_ GE654.out) | exact HB.out)); rintro e w68 ⟨rfl, hi, hb, hk⟩; refine ⟨_, rfl, ?_⟩; have n0_ := Aside0.mk (KeepBut.blk hk (g' := gb646) (o := .cells #[.int .i64 0, .int .i64 0, .slice none 0 0] 39 (0, 0)) (by (with_reducible repeat (first | refine blk_drewN ?_ _ | refine blk_drew ?_ | refine blk_alloc ?_ _)); refine blk_far ?_ NB646_654.out _; (with_reducible repeat (first | refine blk_drewN ?_ _ | refine blk_drew ?_ | refine blk_alloc ?_ _)); refine blk_far ?_ NB646_654.out _; (with_reducible repeat (first | refine blk_drewN ?_ _ | refine blk_drew ?_ | refine blk_alloc ?_ _)); refine blk_far ?_ NB646_654.out _; (with_reducible repeat (first | refine blk_drewN ?_ _ | refine blk_drew ?_ | refine blk_alloc ?_ _)); exact BK646.out) NB646_0.out (by simp)); have n1_ := Aside0.mk (Kd.R_mono (Kd.R_keep (IsS122.apart (show IsS122 w0 _ g s0_0 t652 t653 from by repeat (first | (with_reducible first | exact HI0.out | apply IsS122.alloc | apply IsS122.drewN | apply IsS122.drew | apply IsS122.set_1 | apply IsS122.set_2 | refine IsS122.far ?_ NB0_646.out _ | refine IsS122.far ?_ NB0_654.out _) | exact HI0.out)) (by (with_reducible repeat (first | apply Kd.R_alloc | apply Kd.R_drewN | apply Kd.R_drew)); exact (Kd.R_mono (Kd.R_far (p := ⟨gb654, 2, none⟩) (Kd.R_far (p := ⟨gb654, 1, none⟩) (Kd.R_far (p := ⟨gb654, 0, none⟩) (Kd.R_types HO651.out BK654.out (by decide)) (fun _ hk => hk.2) (.int .i64 t647)) (fun _ hk => hk.2) (.int .i64 t648)) (fun _ hk => hk.2) (.slice Ao67 t649.length co67)) (fun _ h_ => h_.1))) (by decide)) hk (fun _ h => h.2)) (fun _ h => h.1)); have n2_ := Aside0.mk (KeepBut.blk hk (g' := gb654) (o := .cells #[.int .i64 t647, .int .i64 t648, .slice Ao67 t649.length co67] 39 (0, 0)) (by (with_reducible repeat (first | refine blk_drewN ?_ _ | refine blk_drew ?_ | refine blk_alloc ?_ _)); refine blk_put (cs := #[.int .i64 t647, .int .i64 t648, .slice none 0 0]) ?_ 2 _ rfl; (with_reducible repeat (first | refine blk_drewN ?_ _ | refine blk_drew ?_ | refine blk_alloc ?_ _)); refine blk_put (cs := #[.int .i64 t647, .int .i64 0, .slice none 0 0]) ?_ 1 _ rfl; (with_reducible repeat (first | refine blk_drewN ?_ _ | refine blk_drew ?_ | refine blk_alloc ?_ _)); refine blk_put (cs := #[.int .i64 0, .int .i64 0, .slice none 0 0]) ?_ 0 _ rfl; (with_reducible repeat (first | refine blk_drewN ?_ _ | refine blk_drew ?_ | refine blk_alloc ?_ _)); exact BK654.out) NB654_0.out (by simp)); have n3_ := Aside0.mk (KeepBut.trans (by repeat (first | (with_reducible first | exact HK.out | apply KeepBut.set_ | apply keep_drewN | apply keep_drew | apply keep_alloc | refine keep_far ?_ GW646.out _ | refine keep_far ?_ GW654.out _) | exact HK.out)) hk (.inl rfl)); have n4_ := Aside0.mk (hb); have n5_ := Aside0.mk (hi); clear BK646; clear HO651; clear BK654; clear HK; clear HB; clear HI0; have BK646 := n0_; have HO651 := n1_; have BK654 := n2_; have HK := n3_; have HB := n4_; have HI0 := n5_; clear n0_ n1_ n2_ n3_ n4_ n5_; (try clear hb); (try clear hb2); (try clear hk); (try clear hi)))
            have n0_ := Aside0.mk (Kd.R_drew HO651.out)
            have n1_ := Aside0.mk (blk_drew BK646.out)
            have n2_ := Aside0.mk (blk_drew BK654.out)
            have n3_ := Aside0.mk (IsS122.drew HI0.out)
            have n4_ := Aside0.mk (keep_drew HK.out)
            have n5_ := Aside0.mk (below_drew1 HB.out)
            clear HO651
            clear BK646
            clear BK654
            clear HI0
            clear HK
            clear HB
            have HO651 := n0_
            have BK646 := n1_
            have BK654 := n2_
            have HI0 := n3_
            have HK := n4_
            have HB := n5_
            clear n0_ n1_ n2_ n3_ n4_ n5_
            refine start_ (n := 8) (S := fun w' => w'.cell? ⟨gb654, 0, none⟩ = some (.int .i64 t647) ∧ w'.cell? ⟨gb654, 1, none⟩ = some (.int .i64 t648) ∧ w'.cell? ⟨gb654, 2, none⟩ = some (.slice Ao67 t649.length co67)) (ds := [7]) #[false, false, false, false, false, false, false, false] (by kernel_rfl) rfl rfl ⟨(blk_cell BK654.out 0).trans rfl, (blk_cell BK654.out 1).trans rfl, (blk_cell BK654.out 2).trans rfl⟩ (fun hHeld => ?_); refine with_tabW spec_l13DrawAny.tab10 spec_l13DrawAny.bits10 (fun HT_ HW_ => ?_)
            generalize w68.drew = w69 at HO651 BK646 BK654 HI0 HK HB hHeld ⊢
            refine pure_ (i := 0) (N := some 30) (v := ?_) (a' := ?_) #[true, false, false, false, false, false, false, false] rfl rfl (any_of HT_.out (by kernel_rfl)) (fun _ _ _ h => h) (Or.inl ⟨by rfl, ?_⟩) ?_ ?_
            rotate_left
            · intro w'
              go_simp
              with_reducible rfl
            rotate_left
            · simp only [Act.put, List.setIfInBounds_toArray, List.set_cons_zero, List.set_cons_succ, i64_w, i32_w]
              rfl
            refine pure_ (i := 2) (N := some 32) (v := ?_) (a' := ?_) #[true, false, true, false, false, false, false, false] rfl rfl (any_of HT_.out (by kernel_rfl)) (fun _ _ _ h => h) (Or.inl ⟨by rfl, ?_⟩) ?_ ?_
            rotate_left
            · intro w'
              go_simp
              with_reducible rfl
            rotate_left
            · simp only [Act.put, List.setIfInBounds_toArray, List.set_cons_zero, List.set_cons_succ, i64_w, i32_w]
              rfl
            refine take_ (i := 1) (N := some 31) (v := ?_) (a' := ?_) #[true, true, true, false, false, false, false, false] rfl rfl (take_ofW HT_.out HW_.out (by kernel_rfl)) (fun _ _ _ h => h) (Or.inl ⟨by rfl, ?_⟩) hHeld ?_ ?_
            rotate_left
            · rintro w' ⟨s0, s1, s2⟩
              go_simp
              with_reducible rfl
            rotate_left
            · simp only [Act.put, List.setIfInBounds_toArray, List.set_cons_zero, List.set_cons_succ, i64_w, i32_w]
              rfl
            refine one_ (i := 3) (N := some 33) #[true, true, true, true, false, false, false, false] rfl rfl (one_of HT_.out (by kernel_rfl)) (by decide) (fun K hK => ?_)
            refine Kd.R_lit_step (Kd.int .i64) _ 3 ?hg (N := 33) ?hd (xs := ([0, 1000000, 1000001] : List Int)) (inner := [.int .i64 0, .int .i64 1000000, .int .i64 1000001]) (ok := fun _ => True) (okp := fun _ => True) ?hr ?hp (fun _ hk => hk) trivial (Below.refl _ _) (Nat.le_refl _) (by simp) ?_; (case hd => rfl); (case hg => rfl); (case hr => first | (go_simp; done) | (go_simp; rfl)); (case hp => exact (Reps.one (show Kd.M (Kd.int .i64) _ _ _ 0 [.int .i64 0] from rfl) (Reps.one (show Kd.M (Kd.int .i64) _ _ _ 1000000 [.int .i64 1000000] from rfl) (Reps.one (show Kd.M (Kd.int .i64) _ _ _ 1000001 [.int .i64 1000001] from rfl) (Reps.none _ _)))))
            intro v675 w70 ho71 hb hg_ hnew_
            clear hg_ hnew_
            (first | rw [← Ny674.out] at ho71 | (simp only [Int.reduceToNat] at ho71; rw [← Ny674.out] at ho71))
            have n0_ := Aside0.mk (Kd.R_below (by (with_reducible repeat (first | apply Kd.R_alloc | apply Kd.R_drewN | apply Kd.R_drew)); exact HO651.out) hb)
            have n1_ := Aside0.mk (Kd.R_lower ho71 (keep_size (w := w) (g := g) (row := none) (by repeat (first | (with_reducible first | exact HK.out | apply KeepBut.set_ | apply keep_drewN | apply keep_drew | apply keep_alloc | refine keep_far ?_ GW646.out _ | refine keep_far ?_ GW654.out _) | exact HK.out))))
            have n2_ := Aside0.mk (IsS122.below (by repeat (first | (with_reducible first | exact HI0.out | apply IsS122.alloc | apply IsS122.drewN | apply IsS122.drew | apply IsS122.set_1 | apply IsS122.set_2 | refine IsS122.far ?_ NB0_646.out _ | refine IsS122.far ?_ NB0_654.out _) | exact HI0.out)) hb)
            have n3_ := Aside0.mk (bb_ BK646.out hb)
            have n4_ := Aside0.mk (bb_ BK654.out hb)
            have n5_ := Aside0.mk (KeepBut.trans (by repeat (first | (with_reducible first | exact HK.out | apply KeepBut.set_ | apply keep_drewN | apply keep_drew | apply keep_alloc | refine keep_far ?_ GW646.out _ | refine keep_far ?_ GW654.out _) | exact HK.out)) (KeepBut.of_below hb g none) (.inl rfl))
            have n6_ := Aside0.mk (below_step (by repeat (first | (with_reducible first | exact HB.out | apply below_alloc | apply pw_below_drewN | apply below_drew1 | refine below_set ?_ (IsS122.ge HI0.out) | refine below_set ?_ GE646.out | refine below_set ?_ GE654.out) | exact HB.out)) hb)
            clear HO651
            clear HI0
            clear BK646
            clear BK654
            clear HK
            clear HB
            have HO651 := n0_
            have HO676 := n1_
            have HI0 := n2_
            have BK646 := n3_
            have BK654 := n4_
            have HK := n5_
            have HB := n6_
            clear n0_ n1_ n2_ n3_ n4_ n5_ n6_
            clear hb ho71
            obtain ⟨Ao72, co72, eo72⟩ := Kd.R_slice HO676.out
            (first | subst eo72 | (injection eo72 with f1_ f2_ f3_; have f4_ := f1_.symm; have f5_ := f3_.symm; clear f1_ f2_ f3_; subst f4_; subst f5_))
            refine hK.out _ _ ⟨(blk_cell BK654.out 0).trans rfl, (blk_cell BK654.out 1).trans rfl, (blk_cell BK654.out 2).trans rfl⟩ (fun hHeld => ?_)
            clear hK K
            refine norm_ (a' := ?_) ?_ ?_
            rotate_left
            · show Act.put _ (some 33) _ = _
              simp only [Act.put, List.setIfInBounds_toArray, List.set_cons_zero, List.set_cons_succ, i64_w, i32_w]
              rfl
            refine one_ (i := 4) (N := some 34) #[true, true, true, true, true, false, false, false] rfl rfl (one_of HT_.out (by kernel_rfl)) (by decide) (fun K hK => ?_)
            refine goes_ Try.func91 (by kernel_rfl) rfl #[.pointer (some ⟨g, 0, none⟩), .slice Ao72 y674.length co72] (by rfl) rfl rfl arr_ ?_
            with_reducible refine (spec_l1PickInt.calls g s0_0 t656 t657 _ _ y674 t677 t678 t679 w0 _ ?side1 ?side2 ?side3 ?side4 ?side5 A58.out).mono ?_
            (case side1 => repeat (first | (with_reducible first | exact HI0.out | apply IsS122.alloc | apply IsS122.drewN | apply IsS122.drew | apply IsS122.set_1 | apply IsS122.set_2 | refine IsS122.far ?_ NB0_646.out _ | refine IsS122.far ?_ NB0_654.out _) | exact HI0.out))
            (case side2 => repeat (first | (with_reducible first | exact HB.out | apply below_alloc | apply pw_below_drewN | apply below_drew1 | refine below_set ?_ (IsS122.ge HI0.out) | refine below_set ?_ GE646.out | refine below_set ?_ GE654.out) | exact HB.out))
            (case side3 => repeat (first | exact (Kd.R_reads' HO676.out).2.2 | (with_reducible refine Kd.C_alloc ?_ _) | (with_reducible refine Kd.C_drewN ?_ _) | (with_reducible refine Kd.C_drew ?_)))
            (case side4 => exact (Kd.R_reads' HO676.out).2.1)
            (case side5 => exact far_slice (IsS122.own_ne HI0.out HO676.out (by decide)))
            rintro e w73 ⟨rfl, hi, hb, hk⟩
            refine ⟨_, rfl, ?_⟩
            have n0_ := Aside0.mk (KeepBut.blk hk (g' := gb646) (o := .cells #[.int .i64 0, .int .i64 0, .slice none 0 0] 39 (0, 0)) (bk_ BK646.out) NB646_0.out (by simp))
            have n1_ := Aside0.mk (Kd.R_mono (Kd.R_keep (IsS122.apart (show IsS122 w0 _ g s0_0 t656 t657 from by repeat (first | (with_reducible first | exact HI0.out | apply IsS122.alloc | apply IsS122.drewN | apply IsS122.drew | apply IsS122.set_1 | apply IsS122.set_2 | refine IsS122.far ?_ NB0_646.out _ | refine IsS122.far ?_ NB0_654.out _) | exact HI0.out)) (by (with_reducible repeat (first | apply Kd.R_alloc | apply Kd.R_drewN | apply Kd.R_drew)); exact HO651.out) (by decide)) hk (fun _ h => h.2)) (fun _ h => h.1))
            have n2_ := Aside0.mk (KeepBut.blk hk (g' := gb654) (o := .cells #[.int .i64 t647, .int .i64 t648, .slice Ao67 t649.length co67] 39 (0, 0)) (bk_ BK654.out) NB654_0.out (by simp))
            have n3_ := Aside0.mk (Kd.R_mono (Kd.R_keep (IsS122.apart (show IsS122 w0 _ g s0_0 t656 t657 from by repeat (first | (with_reducible first | exact HI0.out | apply IsS122.alloc | apply IsS122.drewN | apply IsS122.drew | apply IsS122.set_1 | apply IsS122.set_2 | refine IsS122.far ?_ NB0_646.out _ | refine IsS122.far ?_ NB0_654.out _) | exact HI0.out)) (by (with_reducible repeat (first | apply Kd.R_alloc | apply Kd.R_drewN | apply Kd.R_drew)); exact HO676.out) (by decide)) hk (fun _ h => h.2)) (fun _ h => h.1))
            have n4_ := Aside0.mk (KeepBut.trans (by repeat (first | (with_reducible first | exact HK.out | apply KeepBut.set_ | apply keep_drewN | apply keep_drew | apply keep_alloc | refine keep_far ?_ GW646.out _ | refine keep_far ?_ GW654.out _) | exact HK.out)) hk (.inl rfl))
            have n5_ := Aside0.mk (hb)
            have n6_ := Aside0.mk (hi)
            clear BK646
            clear HO651
            clear BK654
            clear HO676
            clear HK
            clear HB
            clear HI0
            have BK646 := n0_
            have HO651 := n1_
            have BK654 := n2_
            have HO676 := n3_
            have HK := n4_
            have HB := n5_
            have HI0 := n6_
            clear n0_ n1_ n2_ n3_ n4_ n5_ n6_
            (try clear hb)
            (try clear hb2)
            (try clear hk)
            (try clear hi)
            have p60 : 0 ≤ (0 : Int) := (by omega)
            have q60 : (0 : Int) < ((t649.length : Int) : Int) := of_decide_eq_true (by first | (with_reducible assumption) | assumption)
            have qi60 : (0 < t649.length) = True := eq_true (by omega)
            obtain ⟨go60, co60, eo60, gb60, gl60, cl60, HG60⟩ := Kd.R_form HO651.out (by omega)
            (first | cases eo60 | (injection eo60 with ea_ en_ ec_; (first | subst ea_ | (injection ea_ with ea_; subst ea_)); subst ec_; clear en_))
            have GB60 := Aside0.mk gb60
            have GG60 := Aside0.mk HG60
            clear gb60 gl60 HG60
            obtain ⟨ce60, hcl60, hM60, hcc60, hfr60⟩ := Kd.R_elem HO651.out z79 (0 : Int) p60 q60
            obtain rfl := k79_openM hM60
            have hx60_0 : World.cell? _ ⟨go60, (0 : Int).toNat * 2, none⟩ = some (.int .i64 ((rd_T79 t649 0).f0)) := hcc60 0 _ rfl
            have hx60_1 : World.cell? _ ⟨go60, (0 : Int).toNat * 2 + 1, none⟩ = some (.int .i64 ((rd_T79 t649 0).f1)) := hcc60 1 _ rfl
            have hf60_0 : World.frozen? _ ⟨go60, (0 : Int).toNat * 2, none⟩ = false := hfr60 0
            have hf60_1 : World.frozen? _ ⟨go60, (0 : Int).toNat * 2 + 1, none⟩ = false := hfr60 1
            clear hcl60 hcc60 hfr60 hM60
            (try rw [show ((0 : Int)).toNat = 0 from rfl] at hx60_0)
            (try simp only [Nat.reduceMul, Nat.zero_mul, Nat.zero_add, Nat.reduceAdd] at hx60_0)
            (try rw [show ((0 : Int)).toNat = 0 from rfl] at hf60_0)
            (try simp only [Nat.reduceMul, Nat.zero_mul, Nat.zero_add, Nat.reduceAdd] at hf60_0)
            (try rw [show ((0 : Int)).toNat = 0 from rfl] at hx60_1)
            (try simp only [Nat.reduceMul, Nat.zero_mul, Nat.zero_add, Nat.reduceAdd] at hx60_1)
            (try rw [show ((0 : Int)).toNat = 0 from rfl] at hf60_1)
            (try simp only [Nat.reduceMul, Nat.zero_mul, Nat.zero_add, Nat.reduceAdd] at hf60_1)
            replace p60 := eq_true p60
            replace q60 := eq_true q60
            have HN0_go60 := Aside0.mk (show g ≠ go60 from by have h_ := IsS122.own_ne HI0.out HO651.out (by decide); intro e_; exact h_ (by rw [e_]; rfl))
            obtain ⟨ce74, hcl74, hM74, hcc74, hfr74⟩ := Kd.R_elem HO651.out z79 (0 : Int) (by omega) (by have h_ : (0 : Int) < ((t649.length : Int) : Int) := of_decide_eq_true (by first | (with_reducible assumption) | assumption); first | exact h_ | (have e_ := (Kd.R_reads' HO651.out).1; omega) | simpa using h_)
            obtain rfl := k79_openM hM74
            have HP74 := (Kd.R_seg HO651.out (0 : Int) (by omega) (by have h_ : (0 : Int) < ((t649.length : Int) : Int) := of_decide_eq_true (by first | (with_reducible assumption) | assumption); first | exact h_ | (have e_ := (Kd.R_reads' HO651.out).1; omega) | simpa using h_) (seg := [.int .i64 t677]) (j := 1) hcl74 hcc74 (show 2 ≤ 2 from by decide) (x' := (⟨(rd_T79 t649 0).f0, t677⟩ : S79)) (k79_mkM _ _ _ (⟨(rd_T79 t649 0).f0, t677⟩ : S79) ) (fun _ hk => hk)).1
            rw [← Ny680.out] at HP74
            have HQ74 := Aside0.mk HP74
            clear hcl74 hcc74 hfr74 hM74 HP74
            refine hK.out _ _ ⟨(blk_cell BK654.out 0).trans rfl, (blk_cell BK654.out 1).trans rfl, (blk_cell BK654.out 2).trans rfl⟩ (fun hHeld => ?_)
            clear hK K
            refine norm_ (a' := ?_) ?_ ?_
            rotate_left
            · show Act.put _ (some 34) _ = _
              simp only [Act.put, List.setIfInBounds_toArray, List.set_cons_zero, List.set_cons_succ, i64_w, i32_w]
              rfl
            refine pure_ (i := 5) (N := some 35) (v := ?_) (a' := ?_) #[true, true, true, true, true, true, false, false] rfl rfl (any_of HT_.out (by kernel_rfl)) (fun _ _ _ h => h) (Or.inl ⟨by rfl, ?_⟩) ?_ ?_
            rotate_left
            · intro w'
              go_simp
              with_reducible rfl
            rotate_left
            · simp only [Act.put, List.setIfInBounds_toArray, List.set_cons_zero, List.set_cons_succ, i64_w, i32_w]
              rfl
            refine pure_ (i := 6) (N := some 36) (v := ?_) (a' := ?_) #[true, true, true, true, true, true, true, false] rfl rfl (any_of HT_.out (by kernel_rfl)) (fun _ _ _ h => h) (Or.inl ⟨by rfl, ?_⟩) ?_ ?_
            rotate_left
            · intro w'
              go_simp
              with_reducible rfl
            rotate_left
            · simp only [Act.put, List.setIfInBounds_toArray, List.set_cons_zero, List.set_cons_succ, i64_w, i32_w]
              rfl
            refine last_ (i := 7) (N := none) #[true, true, true, true, true, true, true, true] rfl rfl (one_of HT_.out (by kernel_rfl)) (by decide) (fun K hK => ?_)
            refine skip_ (w1 := ?_) (by rfl) rfl ?_ ?_
            rotate_left
            · go_simp
              rfl
            refine hK.out _ _ ?_
            clear hK K
            refine done_ (done_of HT_.out (by kernel_rfl)) ?_
            have n0_ : Aside0 (Kd.R k79 79 (w73.setCell ⟨go60, 1, none⟩ (.int .i64 t677)) w.heap.size (fun _ => True) (.slice (some ⟨go60, 0, none⟩) t649.length co67) y680) := ⟨by (with_reducible repeat (first | apply Kd.R_alloc | apply Kd.R_drewN | apply Kd.R_drew)); exact HQ74.out⟩
            have n1_ : Aside0 (Kd.R (Kd.int .i64) 3 (w73.setCell ⟨go60, 1, none⟩ (.int .i64 t677)) w.heap.size (fun _ => True) (.slice Ao72 y674.length co72) y674) := ⟨by (with_reducible repeat (first | apply Kd.R_alloc | apply Kd.R_drewN | apply Kd.R_drew)); exact Kd.R_mono (Kd.R_far (p := ⟨go60, 1, none⟩) (Kd.R_types HO676.out GG60.out (by decide)) (fun _ hk => hk.2) (.int .i64 t677)) (fun _ hk => trivial)⟩
            have n2_ : Aside0 ((w73.setCell ⟨go60, 1, none⟩ (.int .i64 t677)).heap[gb646]? = some (.cells #[.int .i64 0, .int .i64 0, .slice none 0 0] 39 (0, 0))) := ⟨by (with_reducible repeat (first | refine blk_drewN ?_ _ | refine blk_drew ?_ | refine blk_alloc ?_ _)); refine blk_far ?_ (by have h_ := Kd.R_ne HO651.out BK646.out (by decide); intro e_; exact h_ (by rw [e_]; rfl)) _; (with_reducible repeat (first | refine blk_drewN ?_ _ | refine blk_drew ?_ | refine blk_alloc ?_ _)); exact BK646.out⟩
            have n3_ : Aside0 ((w73.setCell ⟨go60, 1, none⟩ (.int .i64 t677)).heap[gb654]? = some (.cells #[.int .i64 t647, .int .i64 t648, .slice (some ⟨go60, 0, none⟩) t649.length co67] 39 (0, 0))) := ⟨by (with_reducible repeat (first | refine blk_drewN ?_ _ | refine blk_drew ?_ | refine blk_alloc ?_ _)); refine blk_far ?_ (by have h_ := Kd.R_ne HO651.out BK654.out (by decide); intro e_; exact h_ (by rw [e_]; rfl)) _; (with_reducible repeat (first | refine blk_drewN ?_ _ | refine blk_drew ?_ | refine blk_alloc ?_ _)); exact BK654.out⟩
            have n4_ : Aside0 (IsS122 w0 (w73.setCell ⟨go60, 1, none⟩ (.int .i64 t677)) g s0_0 t678 t679) := ⟨by repeat (first | (with_reducible first | exact HI0.out | apply IsS122.alloc | apply IsS122.drewN | apply IsS122.drew | apply IsS122.set_1 | apply IsS122.set_2 | refine IsS122.far ?_ HN0_go60.out _ | refine IsS122.far ?_ NB0_646.out _ | refine IsS122.far ?_ NB0_654.out _) | exact HI0.out)⟩
            have n5_ : Aside0 (KeepBut w (w73.setCell ⟨go60, 1, none⟩ (.int .i64 t677)) g none) := ⟨by repeat (first | (with_reducible first | exact HK.out | apply KeepBut.set_ | apply keep_drewN | apply keep_drew | apply keep_alloc | refine keep_far ?_ GB60.out _ | refine keep_far ?_ GW646.out _ | refine keep_far ?_ GW654.out _) | exact HK.out)⟩
            have n6_ : Aside0 (Below w0.heap.size w0 (w73.setCell ⟨go60, 1, none⟩ (.int .i64 t677))) := ⟨by repeat (first | (with_reducible first | exact HB.out | apply below_alloc | apply pw_below_drewN | apply below_drew1 | refine below_set ?_ (Nat.le_trans HL.out GB60.out) | refine below_set ?_ (IsS122.ge HI0.out) | refine below_set ?_ GE646.out | refine below_set ?_ GE654.out) | exact HB.out)⟩
            (try clear HO651)
            (try clear HO676)
            (try clear BK646)
            (try clear BK654)
            (try clear HI0)
            (try clear HK)
            (try clear HB)
            generalize (w73.setCell ⟨go60, 1, none⟩ (.int .i64 t677)) = w75 at n0_ n1_ n2_ n3_ n4_ n5_ n6_ ⊢
            have HO651 := n0_
            have HO676 := n1_
            have BK646 := n2_
            have BK654 := n3_
            have HI0 := n4_
            have HK := n5_
            have HB := n6_
            clear n0_ n1_ n2_ n3_ n4_ n5_ n6_
            have hcz76_0 := bc_ BK654.out 0 (.int .i64 t647) rfl
            have hcz76_1 := bc_ BK654.out 1 (.int .i64 t648) rfl
            have hcz76_2 : w75.cell? ⟨gb654, 2, none⟩ = some (.slice (some ⟨go60, 0, none⟩) t649.length co67) := (blk_cell BK654.out 2).trans rfl
            have hfz76_0 := blk_frozen BK654.out 0
            have hfz76_1 := blk_frozen BK654.out 1
            have hfz76_2 := blk_frozen BK654.out 2
            have hnb77 := NB646_0.out
            have hnc77 := NB0_646.out
            have hcz78_0 := bc_ BK646.out 0 (.int .i64 0) rfl
            have hcz78_1 := bc_ BK646.out 1 (.int .i64 0) rfl
            have hcz78_2 := bc_ BK646.out 2 (.slice none 0 0) rfl
            have hfz78_0 := blk_frozen BK646.out 0
            have hfz78_1 := blk_frozen BK646.out 1
            have hfz78_2 := blk_frozen BK646.out 2
            try go_wp2
            refine bodyPost_ret (results_cell_row rfl _ _ gb646 39 #[.int .i64 t647, .int .i64 t648, .slice (some ⟨go60, 0, none⟩) t649.length co67] (0, 0) _ rfl (by (with_reducible repeat (first | refine blk_drewN ?_ _ | refine blk_drew ?_ | refine blk_alloc ?_ _)); refine blk_put (cs := #[.int .i64 t647, .int .i64 t648, .slice none 0 0]) ?_ 2 _ rfl; (with_reducible repeat (first | refine blk_drewN ?_ _ | refine blk_drew ?_ | refine blk_alloc ?_ _)); refine blk_put (cs := #[.int .i64 t647, .int .i64 0, .slice none 0 0]) ?_ 1 _ rfl; (with_reducible repeat (first | refine blk_drewN ?_ _ | refine blk_drew ?_ | refine blk_alloc ?_ _)); refine blk_put (cs := #[.int .i64 0, .int .i64 0, .slice none 0 0]) ?_ 0 _ rfl; (with_reducible repeat (first | refine blk_drewN ?_ _ | refine blk_drew ?_ | refine blk_alloc ?_ _)); exact BK646.out) Try.underlying39 rfl (by kernel_rfl)) rfl ?_
            exact ⟨_, er_, by (with_reducible repeat (first | apply Kd.R_alloc | apply Kd.R_drewN | apply Kd.R_drew)); exact Kd.R_mono (Kd.R_far (p := ⟨gb646, 2, none⟩) (Kd.R_far (p := ⟨gb646, 1, none⟩) (Kd.R_far (p := ⟨gb646, 0, none⟩) (Kd.R_types HO651.out BK646.out (by decide)) (fun _ hk => hk.2) (.int .i64 t647)) (fun _ hk => hk.2) (.int .i64 t648)) (fun _ hk => hk.2) (.slice (some ⟨go60, 0, none⟩) t649.length co67)) (fun _ hk => trivial), by repeat (first | (with_reducible first | exact HI0.out | apply IsS122.alloc | apply IsS122.drewN | apply IsS122.drew | apply IsS122.set_1 | apply IsS122.set_2 | refine IsS122.far ?_ NB0_646.out _ | refine IsS122.far ?_ NB0_654.out _) | exact HI0.out), by repeat (first | (with_reducible first | exact HB.out | apply below_alloc | apply pw_below_drewN | apply below_drew1 | refine below_set ?_ (IsS122.ge HI0.out) | refine below_set ?_ GE646.out | refine below_set ?_ GE654.out) | exact HB.out), by repeat (first | (with_reducible first | exact HK.out | apply KeepBut.set_ | apply keep_drewN | apply keep_drew | apply keep_alloc | refine keep_far ?_ GW646.out _ | refine keep_far ?_ GW654.out _) | exact HK.out)⟩
          · rw [if_neg c59] at H
            exact absurd H (by simp)
        · rw [if_neg c57] at H
          have c57b0 : (t655 == 3) = false := beq_eq_false_iff_ne.mpr c57
          have c57b1 : (t655 != 3) = true := bne_iff_ne.mpr c57
          by_cases c79 : t655 = 4
          · rw [if_pos c79] at H
            have c79b0 : (t655 == 4) = true := beq_iff_eq.mpr c79
            have c79b1 : (t655 != 4) = false := bne_eq_false_iff_eq.mpr c79
            clear c79
            simp only [Option.some.injEq, Prod.mk.injEq] at H
            obtain ⟨rfl, rfl, rfl, rfl, rfl⟩ := H
            go_enter Try.func66, Try.ntmps66
            go_wp2_with (first | ((with_reducible refine gate_dst (N := 2) rfl ?_); refine box_event ?hg (N := 2) ?hd (cs := #[.int .i64 0, .int .i64 0, .slice none 0 0]) (t := 39) ?hr ?_; (case hd => rfl); (case hg => rfl); (case hr => first | (go_simp; done) | (go_simp; rfl)); intro gb646 hg w80 hbox hb; have n0_ := Aside0.mk (IsS122.below (by repeat (first | (with_reducible first | exact HI0.out | apply IsS122.alloc | apply IsS122.drewN | apply IsS122.drew | apply IsS122.set_1 | apply IsS122.set_2) | exact HI0.out)) hb); have n1_ := Aside0.mk (KeepBut.trans (by repeat (first | (with_reducible first | exact HK.out | apply KeepBut.set_ | apply keep_drewN | apply keep_drew | apply keep_alloc) | exact HK.out)) (KeepBut.of_below hb g none) (.inl rfl)); have n2_ := Aside0.mk (below_step (by repeat (first | (with_reducible first | exact HB.out | apply below_alloc | apply pw_below_drewN | apply below_drew1 | refine below_set ?_ (IsS122.ge HI0.out)) | exact HB.out)) hb); have n3_ := Aside0.mk (hbox); have n4_ := Aside0.mk ((by rw [hg]; exact (keep_size (w := w) (g := g) (row := none) (by repeat (first | (with_reducible first | exact HK.out | apply KeepBut.set_ | apply keep_drewN | apply keep_drew | apply keep_alloc) | exact HK.out))) : w.heap.size ≤ gb646)); have n5_ := Aside0.mk ((Nat.le_trans HW0.out (by rw [hg]; exact (keep_size (w := w) (g := g) (row := none) (by repeat (first | (with_reducible first | exact HK.out | apply KeepBut.set_ | apply keep_drewN | apply keep_drew | apply keep_alloc) | exact HK.out))) : w.heap.size ≤ gb646) : w0.heap.size ≤ gb646)); have n6_ := Aside0.mk ((by rw [hg]; exact Nat.ne_of_lt (IsS122.lt (show IsS122 w0 _ g s0_0 s0_1 s0_2 from by repeat (first | (with_reducible first | exact HI0.out | apply IsS122.alloc | apply IsS122.drewN | apply IsS122.drew | apply IsS122.set_1 | apply IsS122.set_2) | exact HI0.out))) : g ≠ gb646)); have n7_ := Aside0.mk ((by rw [hg]; exact Nat.ne_of_gt (IsS122.lt (show IsS122 w0 _ g s0_0 s0_1 s0_2 from by repeat (first | (with_reducible first | exact HI0.out | apply IsS122.alloc | apply IsS122.drewN | apply IsS122.drew | apply IsS122.set_1 | apply IsS122.set_2) | exact HI0.out))) : gb646 ≠ g)); clear HI0; clear HK; clear HB; have HI0 := n0_; have HK := n1_; have HB := n2_; have BK646 := n3_; have GW646 := n4_; have GE646 := n5_; have NB0_646 := n6_; have NB646_0 := n7_; clear n0_ n1_ n2_ n3_ n4_ n5_ n6_ n7_; clear hb hbox hg) | ((with_reducible refine gate_callee (f := 92) rfl ?_); refine goesL_ (some 5) rfl rfl Try.func92 (by kernel_rfl) rfl #[.pointer (some ⟨g, 0, none⟩)] rfl arr_ ?_; (with_reducible refine (spec_l13DrawPlan.calls k g s0_0 s0_1 s0_2 t647 t648 t649 t652 t653 w0 _ ?side1 ?side2 A2.out).mono ?_); (case side1 => repeat (first | (with_reducible first | exact HI0.out | apply IsS122.alloc | apply IsS122.drewN | apply IsS122.drew | apply IsS122.set_1 | apply IsS122.set_2 | refine IsS122.far ?_ NB0_646.out _) | exact HI0.out)); (case side2 => repeat (first | (with_reducible first | exact HB.out | apply below_alloc | apply pw_below_drewN | apply below_drew1 | refine below_set ?_ (IsS122.ge HI0.out) | refine below_set ?_ GE646.out) | exact HB.out)); rintro e w81 ⟨v650, rfl, ho0, hi, hb, hk⟩; refine ⟨_, rfl, ?_⟩; have n0_ := Aside0.mk (KeepBut.blk hk (g' := gb646) (o := .cells #[.int .i64 0, .int .i64 0, .slice none 0 0] 39 (0, 0)) (bk_ BK646.out) NB646_0.out (by simp)); have n1_ := Aside0.mk (Kd.R_lower ho0 (keep_size (w := w) (g := g) (row := none) (by repeat (first | (with_reducible first | exact HK.out | apply KeepBut.set_ | apply keep_drewN | apply keep_drew | apply keep_alloc | refine keep_far ?_ GW646.out _) | exact HK.out)))); have n2_ := Aside0.mk (KeepBut.trans (by repeat (first | (with_reducible first | exact HK.out | apply KeepBut.set_ | apply keep_drewN | apply keep_drew | apply keep_alloc | refine keep_far ?_ GW646.out _) | exact HK.out)) hk (.inl rfl)); have n3_ := Aside0.mk (hb); have n4_ := Aside0.mk (hi); clear BK646; clear HK; clear HB; clear HI0; have BK646 := n0_; have HO651 := n1_; have HK := n2_; have HB := n3_; have HI0 := n4_; clear n0_ n1_ n2_ n3_ n4_; (try clear hb); (try clear hb2); (try clear hk); (try clear hi); (try clear ho0)) | ((with_reducible refine gate_dst (N := 3) rfl ?_); refine box_event ?hg (N := 3) ?hd (cs := #[.int .i64 0, .int .i64 0, .slice none 0 0]) (t := 39) ?hr ?_; (case hd => rfl); (case hg => rfl); (case hr => first | (go_simp; done) | (go_simp; rfl)); intro gb654 hg w82 hbox hb; have n0_ := Aside0.mk (Kd.R_below (by (with_reducible repeat (first | apply Kd.R_alloc | apply Kd.R_drewN | apply Kd.R_drew)); exact HO651.out) hb); have n1_ := Aside0.mk (IsS122.below (by repeat (first | (with_reducible first | exact HI0.out | apply IsS122.alloc | apply IsS122.drewN | apply IsS122.drew | apply IsS122.set_1 | apply IsS122.set_2 | refine IsS122.far ?_ NB0_646.out _) | exact HI0.out)) hb); have n2_ := Aside0.mk (bb_ BK646.out hb); have n3_ := Aside0.mk (KeepBut.trans (by repeat (first | (with_reducible first | exact HK.out | apply KeepBut.set_ | apply keep_drewN | apply keep_drew | apply keep_alloc | refine keep_far ?_ GW646.out _) | exact HK.out)) (KeepBut.of_below hb g none) (.inl rfl)); have n4_ := Aside0.mk (below_step (by repeat (first | (with_reducible first | exact HB.out | apply below_alloc | apply pw_below_drewN | apply below_drew1 | refine below_set ?_ (IsS122.ge HI0.out) | refine below_set ?_ GE646.out) | exact HB.out)) hb); have n5_ := Aside0.mk (hbox); have n6_ := Aside0.mk ((by rw [hg]; exact (keep_size (w := w) (g := g) (row := none) (by repeat (first | (with_reducible first | exact HK.out | apply KeepBut.set_ | apply keep_drewN | apply keep_drew | apply keep_alloc | refine keep_far ?_ GW646.out _) | exact HK.out))) : w.heap.size ≤ gb654)); have n7_ := Aside0.mk ((Nat.le_trans HW0.out (by rw [hg]; exact (keep_size (w := w) (g := g) (row := none) (by repeat (first | (with_reducible first | exact HK.out | apply KeepBut.set_ | apply keep_drewN | apply keep_drew | apply keep_alloc | refine keep_far ?_ GW646.out _) | exact HK.out))) : w.heap.size ≤ gb654) : w0.heap.size ≤ gb654)); have n8_ := Aside0.mk ((bl_ hg BK646.out : gb646 ≠ gb654)); have n9_ := Aside0.mk ((bg_ hg BK646.out : gb654 ≠ gb646)); have n10_ := Aside0.mk ((by rw [hg]; exact Nat.ne_of_lt (IsS122.lt (show IsS122 w0 _ g s0_0 t652 t653 from by repeat (first | (with_reducible first | exact HI0.out | apply IsS122.alloc | apply IsS122.drewN | apply IsS122.drew | apply IsS122.set_1 | apply IsS122.set_2 | refine IsS122.far ?_ NB0_646.out _) | exact HI0.out))) : g ≠ gb654)); have n11_ := Aside0.mk ((by rw [hg]; exact Nat.ne_of_gt (IsS122.lt (show IsS122 w0 _ g s0_0 t652 t653 from by repeat (first | (with_reducible first | exact HI0.out | apply IsS122.alloc | apply IsS122.drewN | apply IsS122.drew | apply IsS122.set_1 | apply IsS122.set_2 | refine IsS122.far ?_ NB0_646.out _) | exact HI0.out))) : gb654 ≠ g)); clear HO651; clear HI0; clear BK646; clear HK; clear HB; have HO651 := n0_; have HI0 := n1_; have BK646 := n2_; have HK := n3_; have HB := n4_; have BK654 := n5_; have GW654 := n6_; have GE654 := n7_; have NB646_654 := n8_; have NB654_646 := n9_; have NB0_654 := n10_; have NB654_0 := n11_; clear n0_ n1_ n2_ n3_ n4_ n5_ n6_ n7_ n8_ n9_ n10_ n11_; clear hb hbox hg; have hnb83 := NB654_646.out; have hnc83 := NB646_654.out; have hnb84 := NB654_0.out; have hnc84 := NB0_654.out; have hcz85_0 := bc_ BK654.out 0 (.int .i64 0) rfl; have hcz85_1 := bc_ BK654.out 1 (.int .i64 0) rfl; have hcz85_2 := bc_ BK654.out 2 (.slice none 0 0) rfl; have hfz85_0 := blk_frozen BK654.out 0; have hfz85_1 := blk_frozen BK654.out 1; have hfz85_2 := blk_frozen BK654.out 2; obtain ⟨Ao86, co86, eo86⟩ := Kd.R_slice HO651.out; subst eo86) | ((with_reducible refine gate_callee (f := 69) rfl ?_); refine goesL_ (some 7) rfl rfl Try.func69 (by kernel_rfl) rfl #[.pointer (some ⟨g, 0, none⟩), .int .i64 25] rfl arr_ ?_; (with_reducible refine (spec_l1Below.calls g s0_0 t652 t653 25 t655 t656 t657 w0 _ ?side1 ?side2 A3.out).mono ?_); (case side1 => repeat (first | (with_reducible first | exact HI0.out | apply IsS122.alloc | apply IsS122.drewN | apply IsS122.drew | apply IsS122.set_1 | apply IsS122.set_2 | refine IsS122.far ?_ NB0_646.out _ | refine IsS122.far ?_ NB0_654.out _) | exact HI0.out)); (case side2 => repeat (first | (with_reducible first | exact HB.out | apply below_alloc | apply pw_below_drewN | apply below_drew1 | refine below_set ?_ (IsS122.ge HI0.out) | refine below_set ?_ GE646.out | refine below_set ?_ GE654.out) | exact HB.out)); rintro e w87 ⟨rfl, hi, hb, hk⟩; refine ⟨_, rfl, ?_⟩; have n0_ := Aside0.mk (KeepBut.blk hk (g' := gb646) (o := .cells #[.int .i64 0, .int .i64 0, .slice none 0 0] 39 (0, 0)) (by (with_reducible repeat (first | refine blk_drewN ?_ _ | refine blk_drew ?_ | refine blk_alloc ?_ _)); refine blk_far ?_ NB646_654.out _; (with_reducible repeat (first | refine blk_drewN ?_ _ | refine blk_drew ?_ | refine blk_alloc ?_ _)); refine blk_far ?_ NB646_654.out _; (with_reducible repeat (first | refine blk_drewN ?_ _ | refine blk_drew ?_ | refine blk_alloc ?_ _)); refine blk_far ?_ NB646_654.out _; (with_reducible repeat (first | refine blk_drewN ?_ _ | refine blk_drew ?_ | refine blk_alloc ?_ _)); exact BK646.out) NB646_0.out (by simp)); have n1_ := Aside0.mk (Kd.R_mono (Kd.R_keep (IsS122.apart (show IsS122 w0 _ g s0_0 t652 t653 from by repeat (first | (with_reducible first | exact HI0.out | apply IsS122.alloc | apply IsS122.drewN | apply IsS122.drew | apply IsS122.set_1 | apply IsS122.set_2 | refine IsS122.far ?_ NB0_646.out _ | refine IsS122.far ?_ NB0_654.out _) | exact HI0.out)) (by (with_reducible repeat (first | apply Kd.R_alloc | apply Kd.R_drewN | apply Kd.R_drew)); exact (Kd.R_mono (Kd.R_far (p := ⟨gb654, 2, none⟩) (Kd.R_far (p := ⟨gb654, 1, none⟩) (Kd.R_far (p := ⟨gb654, 0, none⟩) (Kd.R_types HO651.out BK654.out (by decide)) (fun _ hk => hk.2) (.int .i64 t647)) (fun _ hk => hk.2) (.int .i64 t648)) (fun _ hk => hk.2) (.slice Ao86 t649.length co86)) (fun _ h_ => h_.1))) (by decide)) hk (fun _ h => h.2)) (fun _ h => h.1)); have n2_ := Aside0.mk (KeepBut.blk hk (g' := gb654) (o := .cells #[.int .i64 t647, .int .i64 t648, .slice Ao86 t649.length co86] 39 (0, 0)) (by (with_reducible repeat (first | refine blk_drewN ?_ _ | refine blk_drew ?_ | refine blk_alloc ?_ _)); refine blk_put (cs := #[.int .i64 t647, .int .i64 t648, .slice none 0 0]) ?_ 2 _ rfl; (with_reducible repeat (first | refine blk_drewN ?_ _ | refine blk_drew ?_ | refine blk_alloc ?_ _)); refine blk_put (cs := #[.int .i64 t647, .int .i64 0, .slice none 0 0]) ?_ 1 _ rfl; (with_reducible repeat (first | refine blk_drewN ?_ _ | refine blk_drew ?_ | refine blk_alloc ?_ _)); refine blk_put (cs := #[.int .i64 0, .int .i64 0, .slice none 0 0]) ?_ 0 _ rfl; (with_reducible repeat (first | refine blk_drewN ?_ _ | refine blk_drew ?_ | refine blk_alloc ?_ _)); exact BK654.out) NB654_0.out (by simp)); have n3_ := Aside0.mk (KeepBut.trans (by repeat (first | (with_reducible first | exact HK.out | apply KeepBut.set_ | apply keep_drewN | apply keep_drew | apply keep_alloc | refine keep_far ?_ GW646.out _ | refine keep_far ?_ GW654.out _) | exact HK.out)) hk (.inl rfl)); have n4_ := Aside0.mk (hb); have n5_ := Aside0.mk (hi); clear BK646; clear HO651; clear BK654; clear HK; clear HB; clear HI0; have BK646 := n0_; have HO651 := n1_; have BK654 := n2_; have HK := n3_; have HB := n4_; have HI0 := n5_; clear n0_ n1_ n2_ n3_ n4_ n5_; (try clear hb); (try clear hb2); (try clear hk); (try clear hi); have hcz88_0 := bc_ BK654.out 0 (.int .i64 t647) rfl; have hcz88_1 := bc_ BK654.out 1 (.int .i64 t648) rfl; have hcz88_2 := bc_ BK654.out 2 (.slice Ao86 t649.length co86) rfl; have hfz88_0 := blk_frozen BK654.out 0; have hfz88_1 := blk_frozen BK654.out 1; have hfz88_2 := blk_frozen BK654.out 2; have hnb89 := NB646_0.out; have hnc89 := NB0_646.out; have hcz90_0 := bc_ BK646.out 0 (.int .i64 0) rfl; have hcz90_1 := bc_ BK646.out 1 (.int .i64 0) rfl; have hcz90_2 := bc_ BK646.out 2 (.slice none 0 0) rfl; have hfz90_0 := blk_frozen BK646.out 0; have hfz90_1 := blk_frozen BK646.out 1; have hfz90_2 := blk_frozen BK646.out 2))
            refine bodyPost_ret (results_cell_row rfl _ _ gb646 39 #[.int .i64 t647, .int .i64 t648, .slice none 0 0] (0, 0) _ rfl (by (with_reducible repeat (first | refine blk_drewN ?_ _ | refine blk_drew ?_ | refine blk_alloc ?_ _)); refine blk_put (cs := #[.int .i64 t647, .int .i64 t648, .slice none 0 0]) ?_ 2 _ rfl; (with_reducible repeat (first | refine blk_drewN ?_ _ | refine blk_drew ?_ | refine blk_alloc ?_ _)); refine blk_put (cs := #[.int .i64 t647, .int .i64 0, .slice none 0 0]) ?_ 1 _ rfl; (with_reducible repeat (first | refine blk_drewN ?_ _ | refine blk_drew ?_ | refine blk_alloc ?_ _)); refine blk_put (cs := #[.int .i64 0, .int .i64 0, .slice none 0 0]) ?_ 0 _ rfl; (with_reducible repeat (first | refine blk_drewN ?_ _ | refine blk_drew ?_ | refine blk_alloc ?_ _)); refine blk_far ?_ NB646_654.out _; (with_reducible repeat (first | refine blk_drewN ?_ _ | refine blk_drew ?_ | refine blk_alloc ?_ _)); exact BK646.out) Try.underlying39 rfl (by kernel_rfl)) rfl ?_
            exact ⟨_, er_, by first | exact Kd.R_nil _ _ _ _ _ | exact Kd.N_nil _ _ _ _ _ | exact Kd.V_nil _ _ _ _ _ | exact Kd.Q_nil _ _ _ _ _ | exact Kd.S_nil _ _ _ _ _, by repeat (first | (with_reducible first | exact HI0.out | apply IsS122.alloc | apply IsS122.drewN | apply IsS122.drew | apply IsS122.set_1 | apply IsS122.set_2 | refine IsS122.far ?_ NB0_646.out _ | refine IsS122.far ?_ NB0_654.out _) | exact HI0.out), by repeat (first | (with_reducible first | exact HB.out | apply below_alloc | apply pw_below_drewN | apply below_drew1 | refine below_set ?_ (IsS122.ge HI0.out) | refine below_set ?_ GE646.out | refine below_set ?_ GE654.out) | exact HB.out), by repeat (first | (with_reducible first | exact HK.out | apply KeepBut.set_ | apply keep_drewN | apply keep_drew | apply keep_alloc | refine keep_far ?_ GW646.out _ | refine keep_far ?_ GW654.out _) | exact HK.out)⟩
          · rw [if_neg c79] at H
            have c79b0 : (t655 == 4) = false := beq_eq_false_iff_ne.mpr c79
            have c79b1 : (t655 != 4) = true := bne_iff_ne.mpr c79
            by_cases c91 : t655 = 5
            · rw [if_pos c91] at H
              have c91b0 : (t655 == 5) = true := beq_iff_eq.mpr c91
              have c91b1 : (t655 != 5) = false := bne_eq_false_iff_eq.mpr c91
              clear c91
              have H' := Aside0.mk H
              clear H
              go_enter Try.func66, Try.ntmps66
              go_wp2_with (first | ((with_reducible refine gate_dst (N := 2) rfl ?_); refine box_event ?hg (N := 2) ?hd (cs := #[.int .i64 0, .int .i64 0, .slice none 0 0]) (t := 39) ?hr ?_; (case hd => rfl); (case hg => rfl); (case hr => first | (go_simp; done) | (go_simp; rfl)); intro gb646 hg w92 hbox hb; have n0_ := Aside0.mk (IsS122.below (by repeat (first | (with_reducible first | exact HI0.out | apply IsS122.alloc | apply IsS122.drewN | apply IsS122.drew | apply IsS122.set_1 | apply IsS122.set_2) | exact HI0.out)) hb); have n1_ := Aside0.mk (KeepBut.trans (by repeat (first | (with_reducible first | exact HK.out | apply KeepBut.set_ | apply keep_drewN | apply keep_drew | apply keep_alloc) | exact HK.out)) (KeepBut.of_below hb g none) (.inl rfl)); have n2_ := Aside0.mk (below_step (by repeat (first | (with_reducible first | exact HB.out | apply below_alloc | apply pw_below_drewN | apply below_drew1 | refine below_set ?_ (IsS122.ge HI0.out)) | exact HB.out)) hb); have n3_ := Aside0.mk (hbox); have n4_ := Aside0.mk ((by rw [hg]; exact (keep_size (w := w) (g := g) (row := none) (by repeat (first | (with_reducible first | exact HK.out | apply KeepBut.set_ | apply keep_drewN | apply keep_drew | apply keep_alloc) | exact HK.out))) : w.heap.size ≤ gb646)); have n5_ := Aside0.mk ((Nat.le_trans HW0.out (by rw [hg]; exact (keep_size (w := w) (g := g) (row := none) (by repeat (first | (with_reducible first | exact HK.out | apply KeepBut.set_ | apply keep_drewN | apply keep_drew | apply keep_alloc) | exact HK.out))) : w.heap.size ≤ gb646) : w0.heap.size ≤ gb646)); have n6_ := Aside0.mk ((by rw [hg]; exact Nat.ne_of_lt (IsS122.lt (show IsS122 w0 _ g s0_0 s0_1 s0_2 from by repeat (first | (with_reducible first | exact HI0.out | apply IsS122.alloc | apply IsS122.drewN | apply IsS122.drew | apply IsS122.set_1 | apply IsS122.set_2) | exact HI0.out))) : g ≠ gb646)); have n7_ := Aside0.mk ((by rw [hg]; exact Nat.ne_of_gt (IsS122.lt (show IsS122 w0 _ g s0_0 s0_1 s0_2 from by repeat (first | (with_reducible first | exact HI0.out | apply IsS122.alloc | apply IsS122.drewN | apply IsS122.drew | apply IsS122.set_1 | apply IsS122.set_2) | exact HI0.out))) : gb646 ≠ g)); clear HI0; clear HK; clear HB; have HI0 := n0_; have HK := n1_; have HB := n2_; have BK646 := n3_; have GW646 := n4_; have GE646 := n5_; have NB0_646 := n6_; have NB646_0 := n7_; clear n0_ n1_ n2_ n3_ n4_ n5_ n6_ n7_; clear hb hbox hg) | ((with_reducible refine gate_callee (f := 92) rfl ?_); refine goesL_ (some 5) rfl rfl Try.func92 (by kernel_rfl) rfl #[.pointer (some ⟨g, 0, none⟩)] rfl arr_ ?_; (with_reducible refine (spec_l13DrawPlan.calls k g s0_0 s0_1 s0_2 t647 t648 t649 t652 t653 w0 _ ?side1 ?side2 A2.out).mono ?_); (case side1 => repeat (first | (with_reducible first | exact HI0.out | apply IsS122.alloc | apply IsS122.drewN | apply IsS122.drew | apply IsS122.set_1 | apply IsS122.set_2 | refine IsS122.far ?_ NB0_646.out _) | exact HI0.out)); (case side2 => repeat (first | (with_reducible first | exact HB.out | apply below_alloc | apply pw_below_drewN | apply below_drew1 | refine below_set ?_ (IsS122.ge HI0.out) | refine below_set ?_ GE646.out) | exact HB.out)); rintro e w93 ⟨v650, rfl, ho0, hi, hb, hk⟩; refine ⟨_, rfl, ?_⟩; have n0_ := Aside0.mk (KeepBut.blk hk (g' := gb646) (o := .cells #[.int .i64 0, .int .i64 0, .slice none 0 0] 39 (0, 0)) (bk_ BK646.out) NB646_0.out (by simp)); have n1_ := Aside0.mk (Kd.R_lower ho0 (keep_size (w := w) (g := g) (row := none) (by repeat (first | (with_reducible first | exact HK.out | apply KeepBut.set_ | apply keep_drewN | apply keep_drew | apply keep_alloc | refine keep_far ?_ GW646.out _) | exact HK.out)))); have n2_ := Aside0.mk (KeepBut.trans (by repeat (first | (with_reducible first | exact HK.out | apply KeepBut.set_ | apply keep_drewN | apply keep_drew | apply keep_alloc | refine keep_far ?_ GW646.out _) | exact HK.out)) hk (.inl rfl)); have n3_ := Aside0.mk (hb); have n4_ := Aside0.mk (hi); clear BK646; clear HK; clear HB; clear HI0; have BK646 := n0_; have HO651 := n1_; have HK := n2_; have HB := n3_; have HI0 := n4_; clear n0_ n1_ n2_ n3_ n4_; (try clear hb); (try clear hb2); (try clear hk); (try clear hi); (try clear ho0)) | ((with_reducible refine gate_dst (N := 3) rfl ?_); refine box_event ?hg (N := 3) ?hd (cs := #[.int .i64 0, .int .i64 0, .slice none 0 0]) (t := 39) ?hr ?_; (case hd => rfl); (case hg => rfl); (case hr => first | (go_simp; done) | (go_simp; rfl)); intro gb654 hg w94 hbox hb; have n0_ := Aside0.mk (Kd.R_below (by (with_reducible repeat (first | apply Kd.R_alloc | apply Kd.R_drewN | apply Kd.R_drew)); exact HO651.out) hb); have n1_ := Aside0.mk (IsS122.below (by repeat (first | (with_reducible first | exact HI0.out | apply IsS122.alloc | apply IsS122.drewN | apply IsS122.drew | apply IsS122.set_1 | apply IsS122.set_2 | refine IsS122.far ?_ NB0_646.out _) | exact HI0.out)) hb); have n2_ := Aside0.mk (bb_ BK646.out hb); have n3_ := Aside0.mk (KeepBut.trans (by repeat (first | (with_reducible first | exact HK.out | apply KeepBut.set_ | apply keep_drewN | apply keep_drew | apply keep_alloc | refine keep_far ?_ GW646.out _) | exact HK.out)) (KeepBut.of_below hb g none) (.inl rfl)); have n4_ := Aside0.mk (below_step (by repeat (first | (with_reducible first | exact HB.out | apply below_alloc | apply pw_below_drewN | apply below_drew1 | refine below_set ?_ (IsS122.ge HI0.out) | refine below_set ?_ GE646.out) | exact HB.out)) hb); have n5_ := Aside0.mk (hbox); have n6_ := Aside0.mk ((by rw [hg]; exact (keep_size (w := w) (g := g) (row := none) (by repeat (first | (with_reducible first | exact HK.out | apply KeepBut.set_ | apply keep_drewN | apply keep_drew | apply keep_alloc | refine keep_far ?_ GW646.out _) | exact HK.out))) : w.heap.size ≤ gb654)); have n7_ := Aside0.mk ((Nat.le_trans HW0.out (by rw [hg]; exact (keep_size (w := w) (g := g) (row := none) (by repeat (first | (with_reducible first | exact HK.out | apply KeepBut.set_ | apply keep_drewN | apply keep_drew | apply keep_alloc | refine keep_far ?_ GW646.out _) | exact HK.out))) : w.heap.size ≤ gb654) : w0.heap.size ≤ gb654)); have n8_ := Aside0.mk ((bl_ hg BK646.out : gb646 ≠ gb654)); have n9_ := Aside0.mk ((bg_ hg BK646.out : gb654 ≠ gb646)); have n10_ := Aside0.mk ((by rw [hg]; exact Nat.ne_of_lt (IsS122.lt (show IsS122 w0 _ g s0_0 t652 t653 from by repeat (first | (with_reducible first | exact HI0.out | apply IsS122.alloc | apply IsS122.drewN | apply IsS122.drew | apply IsS122.set_1 | apply IsS122.set_2 | refine IsS122.far ?_ NB0_646.out _) | exact HI0.out))) : g ≠ gb654)); have n11_ := Aside0.mk ((by rw [hg]; exact Nat.ne_of_gt (IsS122.lt (show IsS122 w0 _ g s0_0 t652 t653 from by repeat (first | (with_reducible first | exact HI0.out | apply IsS122.alloc | apply IsS122.drewN | apply IsS122.drew | apply IsS122.set_1 | apply IsS122.set_2 | refine IsS122.far ?_ NB0_646.out _) | exact HI0.out))) : gb654 ≠ g)); clear HO651; clear HI0; clear BK646; clear HK; clear HB; have HO651 := n0_; have HI0 := n1_; have BK646 := n2_; have HK := n3_; have HB := n4_; have BK654 := n5_; have GW654 := n6_; have GE654 := n7_; have NB646_654 := n8_; have NB654_646 := n9_; have NB0_654 := n10_; have NB654_0 := n11_; clear n0_ n1_ n2_ n3_ n4_ n5_ n6_ n7_ n8_ n9_ n10_ n11_; clear hb hbox hg; have hnb95 := NB654_646.out; have hnc95 := NB646_654.out; have hnb96 := NB654_0.out; have hnc96 := NB0_654.out; have hcz97_0 := bc_ BK654.out 0 (.int .i64 0) rfl; have hcz97_1 := bc_ BK654.out 1 (.int .i64 0) rfl; have hcz97_2 := bc_ BK654.out 2 (.slice none 0 0) rfl; have hfz97_0 := blk_frozen BK654.out 0; have hfz97_1 := blk_frozen BK654.out 1; have hfz97_2 := blk_frozen BK654.out 2; obtain ⟨Ao98, co98, eo98⟩ := Kd.R_slice HO651.out; subst eo98) | ((with_reducible refine gate_callee (f := 69) rfl ?_); refine goesL_ (some 7) rfl rfl Try.func69 (by kernel_rfl) rfl #[.pointer (some ⟨g, 0, none⟩), .int .i64 25] rfl arr_ ?_; (with_reducible refine (spec_l1Below.calls g s0_0 t652 t653 25 t655 t656 t657 w0 _ ?side1 ?side2 A3.out).mono ?_); (case side1 => repeat (first | (with_reducible first | exact HI0.out | apply IsS122.alloc | apply IsS122.drewN | apply IsS122.drew | apply IsS122.set_1 | apply IsS122.set_2 | refine IsS122.far ?_ NB0_646.out _ | refine IsS122.far ?_ NB0_654.out _) | exact HI0.out)); (case side2 => repeat (first | (with_reducible first | exact HB.out | apply below_alloc | apply pw_below_drewN | apply below_drew1 | refine below_set ?_ (IsS122.ge HI0.out) | refine below_set ?_ GE646.out | refine below_set ?_ GE654.out) | exact HB.out)); rintro e w99 ⟨rfl, hi, hb, hk⟩; refine ⟨_, rfl, ?_⟩; have n0_ := Aside0.mk (KeepBut.blk hk (g' := gb646) (o := .cells #[.int .i64 0, .int .i64 0, .slice none 0 0] 39 (0, 0)) (by (with_reducible repeat (first | refine blk_drewN ?_ _ | refine blk_drew ?_ | refine blk_alloc ?_ _)); refine blk_far ?_ NB646_654.out _; (with_reducible repeat (first | refine blk_drewN ?_ _ | refine blk_drew ?_ | refine blk_alloc ?_ _)); refine blk_far ?_ NB646_654.out _; (with_reducible repeat (first | refine blk_drewN ?_ _ | refine blk_drew ?_ | refine blk_alloc ?_ _)); refine blk_far ?_ NB646_654.out _; (with_reducible repeat (first | refine blk_drewN ?_ _ | refine blk_drew ?_ | refine blk_alloc ?_ _)); exact BK646.out) NB646_0.out (by simp)); have n1_ := Aside0.mk (Kd.R_mono (Kd.R_keep (IsS122.apart (show IsS122 w0 _ g s0_0 t652 t653 from by repeat (first | (with_reducible first | exact HI0.out | apply IsS122.alloc | apply IsS122.drewN | apply IsS122.drew | apply IsS122.set_1 | apply IsS122.set_2 | refine IsS122.far ?_ NB0_646.out _ | refine IsS122.far ?_ NB0_654.out _) | exact HI0.out)) (by (with_reducible repeat (first | apply Kd.R_alloc | apply Kd.R_drewN | apply Kd.R_drew)); exact (Kd.R_mono (Kd.R_far (p := ⟨gb654, 2, none⟩) (Kd.R_far (p := ⟨gb654, 1, none⟩) (Kd.R_far (p := ⟨gb654, 0, none⟩) (Kd.R_types HO651.out BK654.out (by decide)) (fun _ hk => hk.2) (.int .i64 t647)) (fun _ hk => hk.2) (.int .i64 t648)) (fun _ hk => hk.2) (.slice Ao98 t649.length co98)) (fun _ h_ => h_.1))) (by decide)) hk (fun _ h => h.2)) (fun _ h => h.1)); have n2_ := Aside0.mk (KeepBut.blk hk (g' := gb654) (o := .cells #[.int .i64 t647, .int .i64 t648, .slice Ao98 t649.length co98] 39 (0, 0)) (by (with_reducible repeat (first | refine blk_drewN ?_ _ | refine blk_drew ?_ | refine blk_alloc ?_ _)); refine blk_put (cs := #[.int .i64 t647, .int .i64 t648, .slice none 0 0]) ?_ 2 _ rfl; (with_reducible repeat (first | refine blk_drewN ?_ _ | refine blk_drew ?_ | refine blk_alloc ?_ _)); refine blk_put (cs := #[.int .i64 t647, .int .i64 0, .slice none 0 0]) ?_ 1 _ rfl; (with_reducible repeat (first | refine blk_drewN ?_ _ | refine blk_drew ?_ | refine blk_alloc ?_ _)); refine blk_put (cs := #[.int .i64 0, .int .i64 0, .slice none 0 0]) ?_ 0 _ rfl; (with_reducible repeat (first | refine blk_drewN ?_ _ | refine blk_drew ?_ | refine blk_alloc ?_ _)); exact BK654.out) NB654_0.out (by simp)); have n3_ := Aside0.mk (KeepBut.trans (by repeat (first | (with_reducible first | exact HK.out | apply KeepBut.set_ | apply keep_drewN | apply keep_drew | apply keep_alloc | refine keep_far ?_ GW646.out _ | refine keep_far ?_ GW654.out _) | exact HK.out)) hk (.inl rfl)); have n4_ := Aside0.mk (hb); have n5_ := Aside0.mk (hi); clear BK646; clear HO651; clear BK654; clear HK; clear HB; clear HI0; have BK646 := n0_; have HO651 := n1_; have BK654 := n2_; have HK := n3_; have HB := n4_; have HI0 := n5_; clear n0_ n1_ n2_ n3_ n4_ n5_; (try clear hb); (try clear hb2); (try clear hk); (try clear hi)))
              go_loopg [] k (fun kq w' => ∃ (x655002_1 : List (S79)) (u655002 : Value), Aside0 (spec_l13DrawAny.l0 kq s0_0 t656 t657 t647 t648 x655002_1 = some (r1, r2, r3, r4, r5)) ∧ Aside0 (kq ≤ k) ∧ Aside0 (Kd.R k79 79 w' w.heap.size (fun _ => True) u655002 x655002_1) ∧ Aside0 (w'.heap[gb646]? = some (.cells #[.int .i64 0, .int .i64 0, (.slice none 0 0)] 39 (0, 0))) ∧ Aside0 (w'.heap[gb654]? = some (.cells #[.int .i64 t647, .int .i64 t648, u655002] 39 (0, 0))) ∧ Aside0 (IsS122 w0 w' g s0_0 t656 t657) ∧ Aside0 (KeepBut w w' g none) ∧ Aside0 (Below w0.heap.size w0 w'))
              case atStart => exact ⟨(t649), (.slice Ao98 t649.length co98), H', ⟨Nat.le_refl _⟩, ⟨by (with_reducible repeat (first | apply Kd.R_alloc | apply Kd.R_drewN | apply Kd.R_drew)); exact HO651.out⟩, ⟨bk_ BK646.out⟩, ⟨bk_ BK654.out⟩, ⟨by repeat (first | (with_reducible first | exact HI0.out | apply IsS122.alloc | apply IsS122.drewN | apply IsS122.drew | apply IsS122.set_1 | apply IsS122.set_2 | refine IsS122.far ?_ NB0_646.out _ | refine IsS122.far ?_ NB0_654.out _) | exact HI0.out)⟩, ⟨by repeat (first | (with_reducible first | exact HK.out | apply KeepBut.set_ | apply keep_drewN | apply keep_drew | apply keep_alloc | refine keep_far ?_ GW646.out _ | refine keep_far ?_ GW654.out _) | exact HK.out)⟩, ⟨by repeat (first | (with_reducible first | exact HB.out | apply below_alloc | apply pw_below_drewN | apply below_drew1 | refine below_set ?_ (IsS122.ge HI0.out) | refine below_set ?_ GE646.out | refine below_set ?_ GE654.out) | exact HB.out)⟩⟩
              case round =>
                clear H'
                try clear c1
                try clear c2
                try clear p2
                try clear c3
                try clear p3
                try clear q3
                try clear hx3
                try clear qi3
                try clear hf3
                try clear c4
                try clear c4b0
                try clear c4b1
                try clear c5
                try clear c6
                try clear p6
                try clear q6
                try clear hx6
                try clear qi6
                try clear hf6
                try clear c7
                try clear c8
                try clear c9
                try clear c10
                try clear c16
                try clear c18
                try clear c18b0
                try clear c18b1
                try clear c23
                try clear c24
                try clear c33
                try clear c35
                try clear c35b0
                try clear c35b1
                try clear c37
                try clear c37b0
                try clear c37b1
                try clear c38
                try clear p38
                try clear q38
                try clear hx38
                try clear qi38
                try clear hf38
                try clear c42
                try clear c43
                try clear c52
                try clear c55
                try clear c57
                try clear c57b0
                try clear c57b1
                try clear c59
                try clear c59b0
                try clear c59b1
                try clear c60
                try clear p60
                try clear q60
                try clear hx60
                try clear qi60
                try clear hf60
                try clear c64
                try clear c65
                try clear c66
                try clear c69
                try clear c70
                try clear c74
                try clear c77
                try clear c79
                try clear c79b0
                try clear c79b1
                try clear c83
                try clear c84
                try clear c89
                try clear c91
                try clear c91b0
                try clear c91b1
                try clear c92
                try clear c95
                try clear c96
                try clear hcz11_0
                try clear hcz11_1
                try clear hcz11_2
                try clear hcz15_0
                try clear hcz15_1
                try clear hcz15_2
                try clear hcz17_0
                try clear hcz17_1
                try clear hcz17_2
                try clear hcz25_0
                try clear hcz25_1
                try clear hcz25_2
                try clear hcz32_0
                try clear hcz32_1
                try clear hcz32_2
                try clear hcz34_0
                try clear hcz34_1
                try clear hcz34_2
                try clear hcz44_0
                try clear hcz44_1
                try clear hcz44_2
                try clear hcz54_0
                try clear hcz54_1
                try clear hcz54_2
                try clear hcz56_0
                try clear hcz56_1
                try clear hcz56_2
                try clear hcz66_0
                try clear hcz66_1
                try clear hcz66_2
                try clear hcz76_0
                try clear hcz76_1
                try clear hcz76_2
                try clear hcz78_0
                try clear hcz78_1
                try clear hcz78_2
                try clear hcz85_0
                try clear hcz85_1
                try clear hcz85_2
                try clear hcz88_0
                try clear hcz88_1
                try clear hcz88_2
                try clear hcz90_0
                try clear hcz90_1
                try clear hcz90_2
                try clear hcz97_0
                try clear hcz97_1
                try clear hcz97_2
                try clear hfz11_0
                try clear hfz11_1
                try clear hfz11_2
                try clear hfz15_0
                try clear hfz15_1
                try clear hfz15_2
                try clear hfz17_0
                try clear hfz17_1
                try clear hfz17_2
                try clear hfz25_0
                try clear hfz25_1
                try clear hfz25_2
                try clear hfz32_0
                try clear hfz32_1
                try clear hfz32_2
                try clear hfz34_0
                try clear hfz34_1
                try clear hfz34_2
                try clear hfz44_0
                try clear hfz44_1
                try clear hfz44_2
                try clear hfz54_0
                try clear hfz54_1
                try clear hfz54_2
                try clear hfz56_0
                try clear hfz56_1
                try clear hfz56_2
                try clear hfz66_0
                try clear hfz66_1
                try clear hfz66_2
                try clear hfz76_0
                try clear hfz76_1
                try clear hfz76_2
                try clear hfz78_0
                try clear hfz78_1
                try clear hfz78_2
                try clear hfz85_0
                try clear hfz85_1
                try clear hfz85_2
                try clear hfz88_0
                try clear hfz88_1
                try clear hfz88_2
                try clear hfz90_0
                try clear hfz90_1
                try clear hfz90_2
                try clear hfz97_0
                try clear hfz97_1
                try clear hfz97_2
                try clear hx38_0
                try clear hx38_1
                try clear hx60_0
                try clear hx60_1
                try clear p38
                try clear p60
                try clear q38
                try clear q60
                obtain ⟨x655002_1, u655002, HA, HK1, HO_655002, BK646, BK654, HI0, HK, HB⟩ := hrel
                cases gk with
                | zero => exact absurd HA.out (by simp [spec_l13DrawAny.l0])
                | succ k1 =>
                  have H := HA.out
                  clear HA
                  simp only [spec_l13DrawAny.l0] at H
                  by_cases c100 : (x655002_1.length : Int) ≤ 12
                  · rw [if_pos c100] at H
                    have c100b0 : decide ((x655002_1.length : Int) ≤ 12) = true := decide_eq_true c100
                    have c100b1 : decide (x655002_1.length ≤ 12) = true := decide_eq_true (by omega)
                    clear c100
                    by_cases c101 : x655002_1.length < 8796093022208
                    · rw [if_pos c101] at H
                      have LMc101 := Aside0.mk c101
                      clear c101
                      obtain ⟨y681, hy681⟩ : ∃ y_ : List (S79), y_ = (x655002_1 ++ [(⟨0, 1⟩ : S79)]) := ⟨_, rfl⟩
                      replace H : (spec_l13DrawAny.l0 k1 s0_0 t656 t657 t647 t648 y681) = some (r1, r2, r3, r4, r5) := by first | (rw [hy681]; with_reducible exact H) | (have H2_ := (Option.bind_some _ _).symm.trans H; rw [hy681]; with_reducible exact H2_) | (have H2_ := (Option.bind_some _ _).symm.trans H; with_reducible exact H2_) | with_reducible exact H | (rw [hy681]; exact H) | exact H
                      have Ny681 := Aside0.mk hy681
                      clear hy681
                      have H' := Aside0.mk H
                      clear H
                      have hnb102 := NB654_646.out
                      have hnc102 := NB646_654.out
                      have hnb103 := NB654_0.out
                      have hnc103 := NB0_654.out
                      have hcz104_0 := bc_ BK654.out 0 (.int .i64 t647) rfl
                      have hcz104_1 := bc_ BK654.out 1 (.int .i64 t648) rfl
                      have hcz104_2 := bc_ BK654.out 2 (u655002) rfl
                      have hfz104_0 := blk_frozen BK654.out 0
                      have hfz104_1 := blk_frozen BK654.out 1
                      have hfz104_2 := blk_frozen BK654.out 2
                      obtain ⟨Ao105, co105, eo105⟩ := Kd.R_slice HO_655002.out
                      subst eo105
                      go_wp2_with (first | ((with_reducible refine gate_builtin (b := .append) (xs := #[.tmp 47, .tmp 49]) rfl ?_); at_builtin; refine Kd.R_append k79 w.heap.size rfl (.tmp 47) (.tmp 49) 37 79 (.agg #[(.int .i64 0), (.int .i64 0)]) 16 rfl Try.underlying37 info79 rfl (by decide) (by omega) (.slice Ao105 x655002_1.length co105) x655002_1 (⟨0, 1⟩ : S79) [.int .i64 0, .int .i64 1] (fun _ => True) (fun _ => False) rfl rfl ?aP (fun _ hk => hk.elim) ?aF ?aO (Below.refl _ _) ?aS ?aL ?_; (case aP => exact k79_mkM _ _ _ (⟨0, 1⟩ : S79)); (case aF => exact (fun _ _ => trivial)); (case aO => exact (by (with_reducible repeat (first | apply Kd.R_alloc | apply Kd.R_drewN | apply Kd.R_drew)); exact HO_655002.out)); (case aS => exact (keep_size (w := w) (g := g) (row := none) (by repeat (first | (with_reducible first | exact HK.out | apply KeepBut.set_ | apply keep_drewN | apply keep_drew | apply keep_alloc | refine keep_far ?_ GW646.out _ | refine keep_far ?_ GW654.out _) | exact HK.out)))); (case aL => have := LMc101.out; omega); intro v682 w106 ho hb hg hat; rw [← Ny681.out] at ho; have n0_ := Aside0.mk (blk_grown (g := gb646) (o := .cells #[.int .i64 0, .int .i64 0, .slice none 0 0] 39 (0, 0)) (bk_ BK646.out) hg (Kd.R_ne HO_655002.out BK646.out (by decide))); have n1_ := Aside0.mk (blk_grown (g := gb654) (o := .cells #[.int .i64 t647, .int .i64 t648, .slice Ao105 x655002_1.length co105] 39 (0, 0)) (bk_ BK654.out) hg (Kd.R_ne HO_655002.out BK654.out (by decide))); have n2_ := Aside0.mk (IsS122.grown (by repeat (first | (with_reducible first | exact HI0.out | apply IsS122.alloc | apply IsS122.drewN | apply IsS122.drew | apply IsS122.set_1 | apply IsS122.set_2 | refine IsS122.far ?_ NB0_646.out _ | refine IsS122.far ?_ NB0_654.out _) | exact HI0.out)) hg (IsS122.own_ne HI0.out HO_655002.out (by decide))); have n3_ := Aside0.mk (below_weaken (by repeat (first | (with_reducible first | exact HB.out | apply below_alloc | apply pw_below_drewN | apply below_drew1 | refine below_set ?_ (IsS122.ge HI0.out) | refine below_set ?_ GE646.out | refine below_set ?_ GE654.out) | exact HB.out)) HL.out hb); have n4_ := Aside0.mk (KeepBut.trans (by repeat (first | (with_reducible first | exact HK.out | apply KeepBut.set_ | apply keep_drewN | apply keep_drew | apply keep_alloc | refine keep_far ?_ GW646.out _ | refine keep_far ?_ GW654.out _) | exact HK.out)) (KeepBut.of_grown hg g) (Kd.R_base2 HO_655002.out)); have n5_ := Aside0.mk (ho); clear BK646; clear BK654; clear HI0; clear HB; clear HK; clear HO_655002; have BK646 := n0_; have BK654 := n1_; have HI0 := n2_; have HB := n3_; have HK := n4_; have HO683 := n5_; clear n0_ n1_ n2_ n3_ n4_ n5_; clear ho hb hg hat; obtain ⟨Ao107, co107, eo107⟩ := Kd.R_slice HO683.out; subst eo107; have hcz108_0 := bc_ BK654.out 0 (.int .i64 t647) rfl; have hcz108_1 := bc_ BK654.out 1 (.int .i64 t648) rfl; have hcz108_2 := bc_ BK654.out 2 (.slice Ao105 x655002_1.length co105) rfl; have hfz108_0 := blk_frozen BK654.out 0; have hfz108_1 := blk_frozen BK654.out 1; have hfz108_2 := blk_frozen BK654.out 2))
                      go_roundg k1
                      case measure => have := HK1.out; omega
                      case rel => exact ⟨(y681), (.slice Ao107 y681.length co107), H', ⟨by have := HK1.out; omega⟩, ⟨by (with_reducible repeat (first | apply Kd.R_alloc | apply Kd.R_drewN | apply Kd.R_drew)); exact Kd.R_mono (Kd.R_far (p := ⟨gb654, 2, none⟩) (Kd.R_types HO683.out BK654.out (by decide)) (fun _ hk => hk.2) (.slice Ao107 y681.length co107)) (fun _ hk => trivial)⟩, ⟨by (with_reducible repeat (first | refine blk_drewN ?_ _ | refine blk_drew ?_ | refine blk_alloc ?_ _)); refine blk_far ?_ NB646_654.out _; (with_reducible repeat (first | refine blk_drewN ?_ _ | refine blk_drew ?_ | refine blk_alloc ?_ _)); exact BK646.out⟩, ⟨by (with_reducible repeat (first | refine blk_drewN ?_ _ | refine blk_drew ?_ | refine blk_alloc ?_ _)); refine blk_put (cs := #[.int .i64 t647, .int .i64 t648, .slice Ao105 x655002_1.length co105]) ?_ 2 _ rfl; (with_reducible repeat (first | refine blk_drewN ?_ _ | refine blk_drew ?_ | refine blk_alloc ?_ _)); exact BK654.out⟩, ⟨by repeat (first | (with_reducible first | exact HI0.out | apply IsS122.alloc | apply IsS122.drewN | apply IsS122.drew | apply IsS122.set_1 | apply IsS122.set_2 | refine IsS122.far ?_ NB0_646.out _ | refine IsS122.far ?_ NB0_654.out _) | exact HI0.out)⟩, ⟨by repeat (first | (with_reducible first | exact HK.out | apply KeepBut.set_ | apply keep_drewN | apply keep_drew | apply keep_alloc | refine keep_far ?_ GW646.out _ | refine keep_far ?_ GW654.out _) | exact HK.out)⟩, ⟨by repeat (first | (with_reducible first | exact HB.out | apply below_alloc | apply pw_below_drewN | apply below_drew1 | refine below_set ?_ (IsS122.ge HI0.out) | refine below_set ?_ GE646.out | refine below_set ?_ GE654.out) | exact HB.out)⟩⟩
                    · rw [if_neg c101] at H
                      exact absurd H (by simp)
                  · rw [if_neg c100] at H
                    have c100b0 : decide ((x655002_1.length : Int) ≤ 12) = false := decide_eq_false c100
                    have c100b1 : decide (x655002_1.length ≤ 12) = false := decide_eq_false (by omega)
                    clear c100
                    simp only [Option.some.injEq, Prod.mk.injEq] at H
                    obtain ⟨rfl, rfl, rfl, rfl, rfl⟩ := H
                    have hnb109 := NB654_646.out
                    have hnc109 := NB646_654.out
                    have hnb110 := NB654_0.out
                    have hnc110 := NB0_654.out
                    have hcz111_0 := bc_ BK654.out 0 (.int .i64 t647) rfl
                    have hcz111_1 := bc_ BK654.out 1 (.int .i64 t648) rfl
                    have hcz111_2 := bc_ BK654.out 2 (u655002) rfl
                    have hfz111_0 := blk_frozen BK654.out 0
                    have hfz111_1 := blk_frozen BK654.out 1
                    have hfz111_2 := blk_frozen BK654.out 2
                    obtain ⟨Ao112, co112, eo112⟩ := Kd.R_slice HO_655002.out
                    subst eo112
                    have hnb113 := NB646_0.out
                    have hnc113 := NB0_646.out
                    have hcz114_0 := bc_ BK646.out 0 (.int .i64 0) rfl
                    have hcz114_1 := bc_ BK646.out 1 (.int .i64 0) rfl
                    have hcz114_2 := bc_ BK646.out 2 (.slice none 0 0) rfl
                    have hfz114_0 := blk_frozen BK646.out 0
                    have hfz114_1 := blk_frozen BK646.out 1
                    have hfz114_2 := blk_frozen BK646.out 2
                    go_wp2
                    refine bodyPost_ret (results_cell_row rfl _ _ gb646 39 #[.int .i64 t647, .int .i64 t648, .slice Ao112 x655002_1.length co112] (0, 0) _ rfl (by (with_reducible repeat (first | refine blk_drewN ?_ _ | refine blk_drew ?_ | refine blk_alloc ?_ _)); refine blk_put (cs := #[.int .i64 t647, .int .i64 t648, .slice none 0 0]) ?_ 2 _ rfl; (with_reducible repeat (first | refine blk_drewN ?_ _ | refine blk_drew ?_ | refine blk_alloc ?_ _)); refine blk_put (cs := #[.int .i64 t647, .int .i64 0, .slice none 0 0]) ?_ 1 _ rfl; (with_reducible repeat (first | refine blk_drewN ?_ _ | refine blk_drew ?_ | refine blk_alloc ?_ _)); refine blk_put (cs := #[.int .i64 0, .int .i64 0, .slice none 0 0]) ?_ 0 _ rfl; (with_reducible repeat (first | refine blk_drewN ?_ _ | refine blk_drew ?_ | refine blk_alloc ?_ _)); exact BK646.out) Try.underlying39 rfl (by kernel_rfl)) rfl ?_
                    exact ⟨_, er_, by (with_reducible repeat (first | apply Kd.R_alloc | apply Kd.R_drewN | apply Kd.R_drew)); exact Kd.R_mono (Kd.R_far (p := ⟨gb646, 2, none⟩) (Kd.R_far (p := ⟨gb646, 1, none⟩) (Kd.R_far (p := ⟨gb646, 0, none⟩) (Kd.R_types HO_655002.out BK646.out (by decide)) (fun _ hk => hk.2) (.int .i64 t647)) (fun _ hk => hk.2) (.int .i64 t648)) (fun _ hk => hk.2) (.slice Ao112 x655002_1.length co112)) (fun _ hk => trivial), by repeat (first | (with_reducible first | exact HI0.out | apply IsS122.alloc | apply IsS122.drewN | apply IsS122.drew | apply IsS122.set_1 | apply IsS122.set_2 | refine IsS122.far ?_ NB0_646.out _ | refine IsS122.far ?_ NB0_654.out _) | exact HI0.out), by repeat (first | (with_reducible first | exact HB.out | apply below_alloc | apply pw_below_drewN | apply below_drew1 | refine below_set ?_ (IsS122.ge HI0.out) | refine below_set ?_ GE646.out | refine below_set ?_ GE654.out) | exact HB.out), by repeat (first | (with_reducible first | exact HK.out | apply KeepBut.set_ | apply keep_drewN | apply keep_drew | apply keep_alloc | refine keep_far ?_ GW646.out _ | refine keep_far ?_ GW654.out _) | exact HK.out)⟩
            · rw [if_neg c91] at H
              have c91b0 : (t655 == 5) = false := beq_eq_false_iff_ne.mpr c91
              have c91b1 : (t655 != 5) = true := bne_iff_ne.mpr c91
              simp only [Option.some.injEq, Prod.mk.injEq] at H
              obtain ⟨rfl, rfl, rfl, rfl, rfl⟩ := H
              go_enter Try.func66, Try.ntmps66
              go_wp2_with (first | ((with_reducible refine gate_dst (N := 2) rfl ?_); refine box_event ?hg (N := 2) ?hd (cs := #[.int .i64 0, .int .i64 0, .slice none 0 0]) (t := 39) ?hr ?_; (case hd => rfl); (case hg => rfl); (case hr => first | (go_simp; done) | (go_simp; rfl)); intro gb646 hg w115 hbox hb; have n0_ := Aside0.mk (IsS122.below (by repeat (first | (with_reducible first | exact HI0.out | apply IsS122.alloc | apply IsS122.drewN | apply IsS122.drew | apply IsS122.set_1 | apply IsS122.set_2) | exact HI0.out)) hb); have n1_ := Aside0.mk (KeepBut.trans (by repeat (first | (with_reducible first | exact HK.out | apply KeepBut.set_ | apply keep_drewN | apply keep_drew | apply keep_alloc) | exact HK.out)) (KeepBut.of_below hb g none) (.inl rfl)); have n2_ := Aside0.mk (below_step (by repeat (first | (with_reducible first | exact HB.out | apply below_alloc | apply pw_below_drewN | apply below_drew1 | refine below_set ?_ (IsS122.ge HI0.out)) | exact HB.out)) hb); have n3_ := Aside0.mk (hbox); have n4_ := Aside0.mk ((by rw [hg]; exact (keep_size (w := w) (g := g) (row := none) (by repeat (first | (with_reducible first | exact HK.out | apply KeepBut.set_ | apply keep_drewN | apply keep_drew | apply keep_alloc) | exact HK.out))) : w.heap.size ≤ gb646)); have n5_ := Aside0.mk ((Nat.le_trans HW0.out (by rw [hg]; exact (keep_size (w := w) (g := g) (row := none) (by repeat (first | (with_reducible first | exact HK.out | apply KeepBut.set_ | apply keep_drewN | apply keep_drew | apply keep_alloc) | exact HK.out))) : w.heap.size ≤ gb646) : w0.heap.size ≤ gb646)); have n6_ := Aside0.mk ((by rw [hg]; exact Nat.ne_of_lt (IsS122.lt (show IsS122 w0 _ g s0_0 s0_1 s0_2 from by repeat (first | (with_reducible first | exact HI0.out | apply IsS122.alloc | apply IsS122.drewN | apply IsS122.drew | apply IsS122.set_1 | apply IsS122.set_2) | exact HI0.out))) : g ≠ gb646)); have n7_ := Aside0.mk ((by rw [hg]; exact Nat.ne_of_gt (IsS122.lt (show IsS122 w0 _ g s0_0 s0_1 s0_2 from by repeat (first | (with_reducible first | exact HI0.out | apply IsS122.alloc | apply IsS122.drewN | apply IsS122.drew | apply IsS122.set_1 | apply IsS122.set_2) | exact HI0.out))) : gb646 ≠ g)); clear HI0; clear HK; clear HB; have HI0 := n0_; have HK := n1_; have HB := n2_; have BK646 := n3_; have GW646 := n4_; have GE646 := n5_; have NB0_646 := n6_; have NB646_0 := n7_; clear n0_ n1_ n2_ n3_ n4_ n5_ n6_ n7_; clear hb hbox hg) | ((with_reducible refine gate_callee (f := 92) rfl ?_); refine goesL_ (some 5) rfl rfl Try.func92 (by kernel_rfl) rfl #[.pointer (some ⟨g, 0, none⟩)] rfl arr_ ?_; (with_reducible refine (spec_l13DrawPlan.calls k g s0_0 s0_1 s0_2 t647 t648 t649 t652 t653 w0 _ ?side1 ?side2 A2.out).mono ?_); (case side1 => repeat (first | (with_reducible first | exact HI0.out | apply IsS122.alloc | apply IsS122.drewN | apply IsS122.drew | apply IsS122.set_1 | apply IsS122.set_2 | refine IsS122.far ?_ NB0_646.out _) | exact HI0.out)); (case side2 => repeat (first | (with_reducible first | exact HB.out | apply below_alloc | apply pw_below_drewN | apply below_drew1 | refine below_set ?_ (IsS122.ge HI0.out) | refine below_set ?_ GE646.out) | exact HB.out)); rintro e w116 ⟨v650, rfl, ho0, hi, hb, hk⟩; refine ⟨_, rfl, ?_⟩; have n0_ := Aside0.mk (KeepBut.blk hk (g' := gb646) (o := .cells #[.int .i64 0, .int .i64 0, .slice none 0 0] 39 (0, 0)) (bk_ BK646.out) NB646_0.out (by simp)); have n1_ := Aside0.mk (Kd.R_lower ho0 (keep_size (w := w) (g := g) (row := none) (by repeat (first | (with_reducible first | exact HK.out | apply KeepBut.set_ | apply keep_drewN | apply keep_drew | apply keep_alloc | refine keep_far ?_ GW646.out _) | exact HK.out)))); have n2_ := Aside0.mk (KeepBut.trans (by repeat (first | (with_reducible first | exact HK.out | apply KeepBut.set_ | apply keep_drewN | apply keep_drew | apply keep_alloc | refine keep_far ?_ GW646.out _) | exact HK.out)) hk (.inl rfl)); have n3_ := Aside0.mk (hb); have n4_ := Aside0.mk (hi); clear BK646; clear HK; clear HB; clear HI0; have BK646 := n0_; have HO651 := n1_; have HK := n2_; have HB := n3_; have HI0 := n4_; clear n0_ n1_ n2_ n3_ n4_; (try clear hb); (try clear hb2); (try clear hk); (try clear hi); (try clear ho0)) | ((with_reducible refine gate_dst (N := 3) rfl ?_); refine box_event ?hg (N := 3) ?hd (cs := #[.int .i64 0, .int .i64 0, .slice none 0 0]) (t := 39) ?hr ?_; (case hd => rfl); (case hg => rfl); (case hr => first | (go_simp; done) | (go_simp; rfl)); intro gb654 hg w117 hbox hb; have n0_ := Aside0.mk (Kd.R_below (by (with_reducible repeat (first | apply Kd.R_alloc | apply Kd.R_drewN | apply Kd.R_drew)); exact HO651.out) hb); have n1_ := Aside0.mk (IsS122.below (by repeat (first | (with_reducible first | exact HI0.out | apply IsS122.alloc | apply IsS122.drewN | apply IsS122.drew | apply IsS122.set_1 | apply IsS122.set_2 | refine IsS122.far ?_ NB0_646.out _) | exact HI0.out)) hb); have n2_ := Aside0.mk (bb_ BK646.out hb); have n3_ := Aside0.mk (KeepBut.trans (by repeat (first | (with_reducible first | exact HK.out | apply KeepBut.set_ | apply keep_drewN | apply keep_drew | apply keep_alloc | refine keep_far ?_ GW646.out _) | exact HK.out)) (KeepBut.of_below hb g none) (.inl rfl)); have n4_ := Aside0.mk (below_step (by repeat (first | (with_reducible first | exact HB.out | apply below_alloc | apply pw_below_drewN | apply below_drew1 | refine below_set ?_ (IsS122.ge HI0.out) | refine below_set ?_ GE646.out) | exact HB.out)) hb); have n5_ := Aside0.mk (hbox); have n6_ := Aside0.mk ((by rw [hg]; exact (keep_size (w := w) (g := g) (row := none) (by repeat (first | (with_reducible first | exact HK.out | apply KeepBut.set_ | apply keep_drewN | apply keep_drew | apply keep_alloc | refine keep_far ?_ GW646.out _) | exact HK.out))) : w.heap.size ≤ gb654)); have n7_ := Aside0.mk ((Nat.le_trans HW0.out (by rw [hg]; exact (keep_size (w := w) (g := g) (row := none) (by repeat (first | (with_reducible first | exact HK.out | apply KeepBut.set_ | apply keep_drewN | apply keep_drew | apply keep_alloc | refine keep_far ?_ GW646.out _) | exact HK.out))) : w.heap.size ≤ gb654) : w0.heap.size ≤ gb654)); have n8_ := Aside0.mk ((bl_ hg BK646.out : gb646 ≠ gb654)); have n9_ := Aside0.mk ((bg_ hg BK646.out : gb654 ≠ gb646)); have n10_ := Aside0.mk ((by rw [hg]; exact Nat.ne_of_lt (IsS122.lt (show IsS122 w0 _ g s0_0 t652 t653 from by repeat (first | (with_reducible first | exact HI0.out | apply IsS122.alloc | apply IsS122.drewN | apply IsS122.drew | apply IsS122.set_1 | apply IsS122.set_2 | refine IsS122.far ?_ NB0_646.out _) | exact HI0.out))) : g ≠ gb654)); have n11_ := Aside0.mk ((by rw [hg]; exact Nat.ne_of_gt (IsS122.lt (show IsS122 w0 _ g s0_0 t652 t653 from by repeat (first | (with_reducible first | exact HI0.out | apply IsS122.alloc | apply IsS122.drewN | apply IsS122.drew | apply IsS122.set_1 | apply IsS122.set_2 | refine IsS122.far ?_ NB0_646.out _) | exact HI0.out))) : gb654 ≠ g)); clear HO651; clear HI0; clear BK646; clear HK; clear HB; have HO651 := n0_; have HI0 := n1_; have BK646 := n2_; have HK := n3_; have HB := n4_; have BK654 := n5_; have GW654 := n6_; have GE654 := n7_; have NB646_654 := n8_; have NB654_646 := n9_; have NB0_654 := n10_; have NB654_0 := n11_; clear n0_ n1_ n2_ n3_ n4_ n5_ n6_ n7_ n8_ n9_ n10_ n11_; clear hb hbox hg; have hnb118 := NB654_646.out; have hnc118 := NB646_654.out; have hnb119 := NB654_0.out; have hnc119 := NB0_654.out; have hcz120_0 := bc_ BK654.out 0 (.int .i64 0) rfl; have hcz120_1 := bc_ BK654.out 1 (.int .i64 0) rfl; have hcz120_2 := bc_ BK654.out 2 (.slice none 0 0) rfl; have hfz120_0 := blk_frozen BK654.out 0; have hfz120_1 := blk_frozen BK654.out 1; have hfz120_2 := blk_frozen BK654.out 2; obtain ⟨Ao121, co121, eo121⟩ := Kd.R_slice HO651.out; subst eo121) | ((with_reducible refine gate_callee (f := 69) rfl ?_); refine goesL_ (some 7) rfl rfl Try.func69 (by kernel_rfl) rfl #[.pointer (some ⟨g, 0, none⟩), .int .i64 25] rfl arr_ ?_; (with_reducible refine (spec_l1Below.calls g s0_0 t652 t653 25 t655 t656 t657 w0 _ ?side1 ?side2 A3.out).mono ?_); (case side1 => repeat (first | (with_reducible first | exact HI0.out | apply IsS122.alloc | apply IsS122.drewN | apply IsS122.drew | apply IsS122.set_1 | apply IsS122.set_2 | refine IsS122.far ?_ NB0_646.out _ | refine IsS122.far ?_ NB0_654.out _) | exact HI0.out)); (case side2 => repeat (first | (with_reducible first | exact HB.out | apply below_alloc | apply pw_below_drewN | apply below_drew1 | refine below_set ?_ (IsS122.ge HI0.out) | refine below_set ?_ GE646.out | refine below_set ?_ GE654.out) | exact HB.out)); rintro e w122 ⟨rfl, hi, hb, hk⟩; refine ⟨_, rfl, ?_⟩; have n0_ := Aside0.mk (KeepBut.blk hk (g' := gb646) (o := .cells #[.int .i64 0, .int .i64 0, .slice none 0 0] 39 (0, 0)) (by (with_reducible repeat (first | refine blk_drewN ?_ _ | refine blk_drew ?_ | refine blk_alloc ?_ _)); refine blk_far ?_ NB646_654.out _; (with_reducible repeat (first | refine blk_drewN ?_ _ | refine blk_drew ?_ | refine blk_alloc ?_ _)); refine blk_far ?_ NB646_654.out _; (with_reducible repeat (first | refine blk_drewN ?_ _ | refine blk_drew ?_ | refine blk_alloc ?_ _)); refine blk_far ?_ NB646_654.out _; (with_reducible repeat (first | refine blk_drewN ?_ _ | refine blk_drew ?_ | refine blk_alloc ?_ _)); exact BK646.out) NB646_0.out (by simp)); have n1_ := Aside0.mk (Kd.R_mono (Kd.R_keep (IsS122.apart (show IsS122 w0 _ g s0_0 t652 t653 from by repeat (first | (with_reducible first | exact HI0.out | apply IsS122.alloc | apply IsS122.drewN | apply IsS122.drew | apply IsS122.set_1 | apply IsS122.set_2 | refine IsS122.far ?_ NB0_646.out _ | refine IsS122.far ?_ NB0_654.out _) | exact HI0.out)) (by (with_reducible repeat (first | apply Kd.R_alloc | apply Kd.R_drewN | apply Kd.R_drew)); exact (Kd.R_mono (Kd.R_far (p := ⟨gb654, 2, none⟩) (Kd.R_far (p := ⟨gb654, 1, none⟩) (Kd.R_far (p := ⟨gb654, 0, none⟩) (Kd.R_types HO651.out BK654.out (by decide)) (fun _ hk => hk.2) (.int .i64 t647)) (fun _ hk => hk.2) (.int .i64 t648)) (fun _ hk => hk.2) (.slice Ao121 t649.length co121)) (fun _ h_ => h_.1))) (by decide)) hk (fun _ h => h.2)) (fun _ h => h.1)); have n2_ := Aside0.mk (KeepBut.blk hk (g' := gb654) (o := .cells #[.int .i64 t647, .int .i64 t648, .slice Ao121 t649.length co121] 39 (0, 0)) (by (with_reducible repeat (first | refine blk_drewN ?_ _ | refine blk_drew ?_ | refine blk_alloc ?_ _)); refine blk_put (cs := #[.int .i64 t647, .int .i64 t648, .slice none 0 0]) ?_ 2 _ rfl; (with_reducible repeat (first | refine blk_drewN ?_ _ | refine blk_drew ?_ | refine blk_alloc ?_ _)); refine blk_put (cs := #[.int .i64 t647, .int .i64 0, .slice none 0 0]) ?_ 1 _ rfl; (with_reducible repeat (first | refine blk_drewN ?_ _ | refine blk_drew ?_ | refine blk_alloc ?_ _)); refine blk_put (cs := #[.int .i64 0, .int .i64 0, .slice none 0 0]) ?_ 0 _ rfl; (with_reducible repeat (first | refine blk_drewN ?_ _ | refine blk_drew ?_ | refine blk_alloc ?_ _)); exact BK654.out) NB654_0.out (by simp)); have n3_ := Aside0.mk (KeepBut.trans (by repeat (first | (with_reducible first | exact HK.out | apply KeepBut.set_ | apply keep_drewN | apply keep_drew | apply keep_alloc | refine keep_far ?_ GW646.out _ | refine keep_far ?_ GW654.out _) | exact HK.out)) hk (.inl rfl)); have n4_ := Aside0.mk (hb); have n5_ := Aside0.mk (hi); clear BK646; clear HO651; clear BK654; clear HK; clear HB; clear HI0; have BK646 := n0_; have HO651 := n1_; have BK654 := n2_; have HK := n3_; have HB := n4_; have HI0 := n5_; clear n0_ n1_ n2_ n3_ n4_ n5_; (try clear hb); (try clear hb2); (try clear hk); (try clear hi); have hcz123_0 := bc_ BK654.out 0 (.int .i64 t647) rfl; have hcz123_1 := bc_ BK654.out 1 (.int .i64 t648) rfl; have hcz123_2 := bc_ BK654.out 2 (.slice Ao121 t649.length co121) rfl; have hfz123_0 := blk_frozen BK654.out 0; have hfz123_1 := blk_frozen BK654.out 1; have hfz123_2 := blk_frozen BK654.out 2; have hnb124 := NB646_0.out; have hnc124 := NB0_646.out; have hcz125_0 := bc_ BK646.out 0 (.int .i64 0) rfl; have hcz125_1 := bc_ BK646.out 1 (.int .i64 0) rfl; have hcz125_2 := bc_ BK646.out 2 (.slice none 0 0) rfl; have hfz125_0 := blk_frozen BK646.out 0; have hfz125_1 := blk_frozen BK646.out 1; have hfz125_2 := blk_frozen BK646.out 2))
              refine bodyPost_ret (results_cell_row rfl _ _ gb646 39 #[.int .i64 t647, .int .i64 t648, .slice Ao121 t649.length co121] (0, 0) _ rfl (by (with_reducible repeat (first | refine blk_drewN ?_ _ | refine blk_drew ?_ | refine blk_alloc ?_ _)); refine blk_put (cs := #[.int .i64 t647, .int .i64 t648, .slice none 0 0]) ?_ 2 _ rfl; (with_reducible repeat (first | refine blk_drewN ?_ _ | refine blk_drew ?_ | refine blk_alloc ?_ _)); refine blk_put (cs := #[.int .i64 t647, .int .i64 0, .slice none 0 0]) ?_ 1 _ rfl; (with_reducible repeat (first | refine blk_drewN ?_ _ | refine blk_drew ?_ | refine blk_alloc ?_ _)); refine blk_put (cs := #[.int .i64 0, .int .i64 0, .slice none 0 0]) ?_ 0 _ rfl; (with_reducible repeat (first | refine blk_drewN ?_ _ | refine blk_drew ?_ | refine blk_alloc ?_ _)); exact BK646.out) Try.underlying39 rfl (by kernel_rfl)) rfl ?_
              exact ⟨_, er_, by (with_reducible repeat (first | apply Kd.R_alloc | apply Kd.R_drewN | apply Kd.R_drew)); exact Kd.R_mono (Kd.R_far (p := ⟨gb646, 2, none⟩) (Kd.R_far (p := ⟨gb646, 1, none⟩) (Kd.R_far (p := ⟨gb646, 0, none⟩) (Kd.R_types HO651.out BK646.out (by decide)) (fun _ hk => hk.2) (.int .i64 t647)) (fun _ hk => hk.2) (.int .i64 t648)) (fun _ hk => hk.2) (.slice Ao121 t649.length co121)) (fun _ hk => trivial), by repeat (first | (with_reducible first | exact HI0.out | apply IsS122.alloc | apply IsS122.drewN | apply IsS122.drew | apply IsS122.set_1 | apply IsS122.set_2 | refine IsS122.far ?_ NB0_646.out _ | refine IsS122.far ?_ NB0_654.out _) | exact HI0.out), by repeat (first | (with_reducible first | exact HB.out | apply below_alloc | apply pw_below_drewN | apply below_drew1 | refine below_set ?_ (IsS122.ge HI0.out) | refine below_set ?_ GE646.out | refine below_set ?_ GE654.out) | exact HB.out), by repeat (first | (with_reducible first | exact HK.out | apply KeepBut.set_ | apply keep_drewN | apply keep_drew | apply keep_alloc | refine keep_far ?_ GW646.out _ | refine keep_far ?_ GW654.out _) | exact HK.out)⟩
def spec_DrawShareOf.f (k : Nat) (l0 : List Int) : Option (Int × Int × (List (S79)) × Int) := (spec_l1New.f k l0).bind fun bt1010 => ((spec_l13DrawAny.f k bt1010.1 bt1010.2.1 bt1010.2.2).bind fun bt1014 => ((spec_l1Below.f bt1010.1 bt1014.2.2.2.1 bt1014.2.2.2.2 6).bind fun bt1022 => (some (bt1014.1, bt1014.2.1, bt1014.2.2.1, wrap64 (bt1022.1 - 1)))))
set_option maxHeartbeats 8000000 in
set_option maxRecDepth 100000 in
theorem spec_DrawShareOf.calls (k : Nat) (A0 : Option Addr) (c0 : Nat) (l0 : List Int) (r1 : Int) (r2 : Int) (r3 : List (S79)) (r4 : Int) (w : World) (hr0 : Kd.C (Kd.int .u8) w A0 l0.length l0) (hc0 : l0.length ≤ c0) (h : spec_DrawShareOf.f k l0 = some (r1, r2, r3, r4)) :
    Calls Try.prog 37 #[.slice A0 l0.length c0] w fun e w' => ∃ v2_ : Value, e = .returned (.tuple #[.agg #[.int .i64 r1, .int .i64 r2, v2_], .int .i64 r4]) ∧ Kd.R k79 79 w' w.heap.size (fun _ => True) v2_ r3 ∧ Below w.heap.size w w' := by
  have hu39 := Try.underlying39
  have HR0 := Aside0.mk hr0
  have HC0 := Aside0.mk hc0
  clear hr0 hc0
  have HB := Aside0.mk (Below.refl w.heap.size w)
  have H : ((spec_l1New.f k l0).bind fun bt1010 => ((spec_l13DrawAny.f k bt1010.1 bt1010.2.1 bt1010.2.2).bind fun bt1014 => ((spec_l1Below.f bt1010.1 bt1014.2.2.2.1 bt1014.2.2.2.2 6).bind fun bt1022 => (some (bt1014.1, bt1014.2.1, bt1014.2.2.1, wrap64 (bt1022.1 - 1)))))) = some (r1, r2, r3, r4) := h
  clear h
  replace H := Option.bind_eq_some_iff.mp H
  obtain ⟨⟨t1010, t1011, t1012⟩, A20, H⟩ := H
  replace H : ((spec_l13DrawAny.f k t1010 t1011 t1012).bind fun bt1014 => ((spec_l1Below.f t1010 bt1014.2.2.2.1 bt1014.2.2.2.2 6).bind fun bt1022 => (some (bt1014.1, bt1014.2.1, bt1014.2.2.1, wrap64 (bt1022.1 - 1))))) = some (r1, r2, r3, r4) := H
  have A2 := Aside0.mk A20
  clear A20
  replace H := Option.bind_eq_some_iff.mp H
  obtain ⟨⟨t1014, t1015, t1016, t1019, t1020⟩, A30, H⟩ := H
  replace H : ((spec_l1Below.f t1010 t1019 t1020 6).bind fun bt1022 => (some (t1014, t1015, t1016, wrap64 (bt1022.1 - 1)))) = some (r1, r2, r3, r4) := H
  have A3 := Aside0.mk A30
  clear A30
  replace H := Option.bind_eq_some_iff.mp H
  obtain ⟨⟨t1022, t1023, t1024⟩, A40, H⟩ := H
  replace H : (some (t1014, t1015, t1016, wrap64 (t1022 - 1))) = some (r1, r2, r3, r4) := H
  have A4 := Aside0.mk A40
  clear A40
  simp only [Option.some.injEq, Prod.mk.injEq] at H
  obtain ⟨rfl, rfl, rfl, rfl⟩ := H
  go_enter Try.func37, Try.ntmps37
  try go_wp2_with (first | ((with_reducible refine gate_dst (N := 2) rfl ?_); refine box_event ?hg (N := 2) ?hd (cs := #[.int .i64 0, .int .i64 0, .slice none 0 0]) (t := 39) ?hr ?_; (case hd => rfl); (case hg => rfl); (case hr => first | (go_simp; done) | (go_simp; rfl)); intro gb1009 hg w5 hbox hb; have n0_ := Aside0.mk (below_step (hb_ HB.out) hb); have n1_ := Aside0.mk (hbox); have n2_ := Aside0.mk ((by rw [hg]; exact (below_size (hb_ HB.out)) : w.heap.size ≤ gb1009)); have n3_ := Aside0.mk ((by rw [hg]; exact (below_size (hb_ HB.out)) : w.heap.size ≤ gb1009)); clear HB; have HB := n0_; have BK1009 := n1_; have GW1009 := n2_; have GE1009 := n3_; clear n0_ n1_ n2_ n3_; clear hb hbox hg) | ((with_reducible refine gate_callee (f := 64) rfl ?_); refine goesL_ (some 7) rfl rfl Try.func64 (by kernel_rfl) rfl #[.slice A0 l0.length c0] rfl arr_ ?_; (with_reducible refine (spec_l1New.calls k _ _ l0 t1010 t1011 t1012 w _ ?side1 ?side2 ?side3 A2.out).mono ?_); (case side1 => repeat (first | (with_reducible first | exact HB.out | apply below_alloc | apply pw_below_drewN | apply below_drew1 | refine below_set ?_ GE1009.out) | exact HB.out)); (case side2 => exact HR0.out); (case side3 => exact HC0.out); rintro e w6 ⟨g1013, rfl, hi, hb, hb2⟩; refine ⟨_, rfl, ?_⟩; have n0_ := Aside0.mk (blk_below (g := gb1009) (o := .cells #[.int .i64 0, .int .i64 0, .slice none 0 0] 39 (0, 0)) (bk_ BK1009.out) hb2); have n1_ := Aside0.mk (hb); have n2_ := Aside0.mk (hi); have n3_ := Aside0.mk (IsS122.ne_blk hi (blk_below (g := gb1009) (o := .cells #[.int .i64 0, .int .i64 0, .slice none 0 0] 39 (0, 0)) (bk_ BK1009.out) hb2) (by decide)); have n4_ := Aside0.mk (Ne.symm (IsS122.ne_blk hi (blk_below (g := gb1009) (o := .cells #[.int .i64 0, .int .i64 0, .slice none 0 0] 39 (0, 0)) (bk_ BK1009.out) hb2) (by decide))); clear BK1009; clear HB; have BK1009 := n0_; have HB := n1_; have HI1013 := n2_; have NB1013_1009 := n3_; have NB1009_1013 := n4_; clear n0_ n1_ n2_ n3_ n4_; (try clear hb); (try clear hb2); (try clear hk); (try clear hi)) | ((with_reducible refine gate_callee (f := 66) rfl ?_); refine goesL_ (some 9) rfl rfl Try.func66 (by kernel_rfl) rfl #[.pointer (some ⟨g1013, 0, none⟩)] rfl arr_ ?_; (with_reducible refine (spec_l13DrawAny.calls k g1013 t1010 t1011 t1012 t1014 t1015 t1016 t1019 t1020 w _ ?side1 ?side2 A3.out).mono ?_); (case side1 => repeat (first | (with_reducible first | exact HI1013.out | apply IsS122.alloc | apply IsS122.drewN | apply IsS122.drew | apply IsS122.set_1 | apply IsS122.set_2 | refine IsS122.far ?_ NB1013_1009.out _) | exact HI1013.out)); (case side2 => repeat (first | (with_reducible first | exact HB.out | apply below_alloc | apply pw_below_drewN | apply below_drew1 | refine below_set ?_ (IsS122.ge HI1013.out) | refine below_set ?_ GE1009.out) | exact HB.out)); rintro e w7 ⟨v1017, rfl, ho0, hi, hb, hk⟩; refine ⟨_, rfl, ?_⟩; have n0_ := Aside0.mk (KeepBut.blk hk (g' := gb1009) (o := .cells #[.int .i64 0, .int .i64 0, .slice none 0 0] 39 (0, 0)) (bk_ BK1009.out) NB1009_1013.out (by simp)); have n1_ := Aside0.mk (Kd.R_lower ho0 (below_size (by repeat (first | (with_reducible first | exact HB.out | apply below_alloc | apply pw_below_drewN | apply below_drew1 | refine below_set ?_ (IsS122.ge HI1013.out) | refine below_set ?_ GE1009.out) | exact HB.out)))); have n2_ := Aside0.mk (hb); have n3_ := Aside0.mk (hi); clear BK1009; clear HB; clear HI1013; have BK1009 := n0_; have HO1018 := n1_; have HB := n2_; have HI1013 := n3_; clear n0_ n1_ n2_ n3_; (try clear hb); (try clear hb2); (try clear hk); (try clear hi); (try clear ho0)) | ((with_reducible refine gate_dst (N := 5) rfl ?_); refine box_event ?hg (N := 5) ?hd (cs := #[.int .i64 0, .int .i64 0, .slice none 0 0]) (t := 39) ?hr ?_; (case hd => rfl); (case hg => rfl); (case hr => first | (go_simp; done) | (go_simp; rfl)); intro gb1021 hg w8 hbox hb; have n0_ := Aside0.mk (Kd.R_below (by (with_reducible repeat (first | apply Kd.R_alloc | apply Kd.R_drewN | apply Kd.R_drew)); exact HO1018.out) hb); have n1_ := Aside0.mk (bb_ BK1009.out hb); have n2_ := Aside0.mk (IsS122.below (by repeat (first | (with_reducible first | exact HI1013.out | apply IsS122.alloc | apply IsS122.drewN | apply IsS122.drew | apply IsS122.set_1 | apply IsS122.set_2 | refine IsS122.far ?_ NB1013_1009.out _) | exact HI1013.out)) hb); have n3_ := Aside0.mk (below_step (by repeat (first | (with_reducible first | exact HB.out | apply below_alloc | apply pw_below_drewN | apply below_drew1 | refine below_set ?_ (IsS122.ge HI1013.out) | refine below_set ?_ GE1009.out) | exact HB.out)) hb); have n4_ := Aside0.mk (hbox); have n5_ := Aside0.mk ((by rw [hg]; exact (below_size (by repeat (first | (with_reducible first | exact HB.out | apply below_alloc | apply pw_below_drewN | apply below_drew1 | refine below_set ?_ (IsS122.ge HI1013.out) | refine below_set ?_ GE1009.out) | exact HB.out))) : w.heap.size ≤ gb1021)); have n6_ := Aside0.mk ((by rw [hg]; exact (below_size (by repeat (first | (with_reducible first | exact HB.out | apply below_alloc | apply pw_below_drewN | apply below_drew1 | refine below_set ?_ (IsS122.ge HI1013.out) | refine below_set ?_ GE1009.out) | exact HB.out))) : w.heap.size ≤ gb1021)); have n7_ := Aside0.mk ((bl_ hg BK1009.out : gb1009 ≠ gb1021)); have n8_ := Aside0.mk ((bg_ hg BK1009.out : gb1021 ≠ gb1009)); have n9_ := Aside0.mk ((by rw [hg]; exact Nat.ne_of_lt (IsS122.lt (show IsS122 w _ g1013 t1010 t1019 t1020 from by repeat (first | (with_reducible first | exact HI1013.out | apply IsS122.alloc | apply IsS122.drewN | apply IsS122.drew | apply IsS122.set_1 | apply IsS122.set_2 | refine IsS122.far ?_ NB1013_1009.out _) | exact HI1013.out))) : g1013 ≠ gb1021)); have n10_ := Aside0.mk ((by rw [hg]; exact Nat.ne_of_gt (IsS122.lt (show IsS122 w _ g1013 t1010 t1019 t1020 from by repeat (first | (with_reducible first | exact HI1013.out | apply IsS122.alloc | apply IsS122.drewN | apply IsS122.drew | apply IsS122.set_1 | apply IsS122.set_2 | refine IsS122.far ?_ NB1013_1009.out _) | exact HI1013.out))) : gb1021 ≠ g1013)); clear HO1018; clear BK1009; clear HI1013; clear HB; have HO1018 := n0_; have BK1009 := n1_; have HI1013 := n2_; have HB := n3_; have BK1021 := n4_; have GW1021 := n5_; have GE1021 := n6_; have NB1009_1021 := n7_; have NB1021_1009 := n8_; have NB1013_1021 := n9_; have NB1021_1013 := n10_; clear n0_ n1_ n2_ n3_ n4_ n5_ n6_ n7_ n8_ n9_ n10_; clear hb hbox hg; have hnb9 := NB1021_1009.out; have hnc9 := NB1009_1021.out; have hnb10 := NB1021_1013.out; have hnc10 := NB1013_1021.out; have hcz11_0 := bc_ BK1021.out 0 (.int .i64 0) rfl; have hcz11_1 := bc_ BK1021.out 1 (.int .i64 0) rfl; have hcz11_2 := bc_ BK1021.out 2 (.slice none 0 0) rfl; have hfz11_0 := blk_frozen BK1021.out 0; have hfz11_1 := blk_frozen BK1021.out 1; have hfz11_2 := blk_frozen BK1021.out 2; obtain ⟨Ao12, co12, eo12⟩ := Kd.R_slice HO1018.out; subst eo12))
  have n0_ : Aside0 (Kd.R k79 79 (((w8.setCell ⟨gb1021, 0, none⟩ (.int .i64 t1014)).setCell ⟨gb1021, 1, none⟩ (.int .i64 t1015)).setCell ⟨gb1021, 2, none⟩ (.slice Ao12 t1016.length co12)) w.heap.size (fun _ => True) (.slice Ao12 t1016.length co12) t1016) := ⟨by (with_reducible repeat (first | apply Kd.R_alloc | apply Kd.R_drewN | apply Kd.R_drew)); exact Kd.R_mono (Kd.R_far (p := ⟨gb1021, 2, none⟩) (Kd.R_far (p := ⟨gb1021, 1, none⟩) (Kd.R_far (p := ⟨gb1021, 0, none⟩) (Kd.R_types HO1018.out BK1021.out (by decide)) (fun _ hk => hk.2) (.int .i64 t1014)) (fun _ hk => hk.2) (.int .i64 t1015)) (fun _ hk => hk.2) (.slice Ao12 t1016.length co12)) (fun _ hk => trivial)⟩
  have n1_ : Aside0 ((((w8.setCell ⟨gb1021, 0, none⟩ (.int .i64 t1014)).setCell ⟨gb1021, 1, none⟩ (.int .i64 t1015)).setCell ⟨gb1021, 2, none⟩ (.slice Ao12 t1016.length co12)).heap[gb1009]? = some (.cells #[.int .i64 0, .int .i64 0, .slice none 0 0] 39 (0, 0))) := ⟨by (with_reducible repeat (first | refine blk_drewN ?_ _ | refine blk_drew ?_ | refine blk_alloc ?_ _)); refine blk_far ?_ NB1009_1021.out _; (with_reducible repeat (first | refine blk_drewN ?_ _ | refine blk_drew ?_ | refine blk_alloc ?_ _)); refine blk_far ?_ NB1009_1021.out _; (with_reducible repeat (first | refine blk_drewN ?_ _ | refine blk_drew ?_ | refine blk_alloc ?_ _)); refine blk_far ?_ NB1009_1021.out _; (with_reducible repeat (first | refine blk_drewN ?_ _ | refine blk_drew ?_ | refine blk_alloc ?_ _)); exact BK1009.out⟩
  have n2_ : Aside0 ((((w8.setCell ⟨gb1021, 0, none⟩ (.int .i64 t1014)).setCell ⟨gb1021, 1, none⟩ (.int .i64 t1015)).setCell ⟨gb1021, 2, none⟩ (.slice Ao12 t1016.length co12)).heap[gb1021]? = some (.cells #[.int .i64 t1014, .int .i64 t1015, .slice Ao12 t1016.length co12] 39 (0, 0))) := ⟨by (with_reducible repeat (first | refine blk_drewN ?_ _ | refine blk_drew ?_ | refine blk_alloc ?_ _)); refine blk_put (cs := #[.int .i64 t1014, .int .i64 t1015, .slice none 0 0]) ?_ 2 _ rfl; (with_reducible repeat (first | refine blk_drewN ?_ _ | refine blk_drew ?_ | refine blk_alloc ?_ _)); refine blk_put (cs := #[.int .i64 t1014, .int .i64 0, .slice none 0 0]) ?_ 1 _ rfl; (with_reducible repeat (first | refine blk_drewN ?_ _ | refine blk_drew ?_ | refine blk_alloc ?_ _)); refine blk_put (cs := #[.int .i64 0, .int .i64 0, .slice none 0 0]) ?_ 0 _ rfl; (with_reducible repeat (first | refine blk_drewN ?_ _ | refine blk_drew ?_ | refine blk_alloc ?_ _)); exact BK1021.out⟩
  have n3_ : Aside0 (IsS122 w (((w8.setCell ⟨gb1021, 0, none⟩ (.int .i64 t1014)).setCell ⟨gb1021, 1, none⟩ (.int .i64 t1015)).setCell ⟨gb1021, 2, none⟩ (.slice Ao12 t1016.length co12)) g1013 t1010 t1019 t1020) := ⟨by repeat (first | (with_reducible first | exact HI1013.out | apply IsS122.alloc | apply IsS122.drewN | apply IsS122.drew | apply IsS122.set_1 | apply IsS122.set_2 | refine IsS122.far ?_ NB1013_1009.out _ | refine IsS122.far ?_ NB1013_1021.out _) | exact HI1013.out)⟩
  have n4_ : Aside0 (Below w.heap.size w (((w8.setCell ⟨gb1021, 0, none⟩ (.int .i64 t1014)).setCell ⟨gb1021, 1, none⟩ (.int .i64 t1015)).setCell ⟨gb1021, 2, none⟩ (.slice Ao12 t1016.length co12))) := ⟨by repeat (first | (with_reducible first | exact HB.out | apply below_alloc | apply pw_below_drewN | apply below_drew1 | refine below_set ?_ (IsS122.ge HI1013.out) | refine below_set ?_ GE1009.out | refine below_set ?_ GE1021.out) | exact HB.out)⟩
  (try clear HO1018)
  (try clear BK1009)
  (try clear BK1021)
  (try clear HI1013)
  (try clear HB)
  generalize (((w8.setCell ⟨gb1021, 0, none⟩ (.int .i64 t1014)).setCell ⟨gb1021, 1, none⟩ (.int .i64 t1015)).setCell ⟨gb1021, 2, none⟩ (.slice Ao12 t1016.length co12)) = w13 at n0_ n1_ n2_ n3_ n4_ ⊢
  have HO1018 := n0_
  have BK1009 := n1_
  have BK1021 := n2_
  have HI1013 := n3_
  have HB := n4_
  clear n0_ n1_ n2_ n3_ n4_
  have n0_ := Aside0.mk (Kd.R_drew HO1018.out)
  have n1_ := Aside0.mk (blk_drew BK1009.out)
  have n2_ := Aside0.mk (blk_drew BK1021.out)
  have n3_ := Aside0.mk (IsS122.drew HI1013.out)
  have n4_ := Aside0.mk (below_drew1 HB.out)
  clear HO1018
  clear BK1009
  clear BK1021
  clear HI1013
  clear HB
  have HO1018 := n0_
  have BK1009 := n1_
  have BK1021 := n2_
  have HI1013 := n3_
  have HB := n4_
  clear n0_ n1_ n2_ n3_ n4_
  refine start_ (n := 6) (S := fun w' => w'.cell? ⟨gb1021, 0, none⟩ = some (.int .i64 t1014) ∧ w'.cell? ⟨gb1021, 1, none⟩ = some (.int .i64 t1015) ∧ w'.cell? ⟨gb1021, 2, none⟩ = some (.slice Ao12 t1016.length co12)) (ds := []) #[false, false, false, false, false, false] (by kernel_rfl) rfl rfl ⟨(blk_cell BK1021.out 0).trans rfl, (blk_cell BK1021.out 1).trans rfl, (blk_cell BK1021.out 2).trans rfl⟩ (fun hHeld => ?_)
  generalize w13.drew = w14 at HO1018 BK1009 BK1021 HI1013 HB hHeld ⊢
  refine pure_ (i := 1) (N := some 11) (v := ?_) (a' := ?_) #[false, true, false, false, false, false] rfl rfl (by kernel_rfl) (fun _ _ _ h => h) (Or.inl ⟨by rfl, ?_⟩) ?_ ?_
  rotate_left
  · intro w'
    go_simp
    with_reducible rfl
  rotate_left
  · simp only [Act.put, List.setIfInBounds_toArray, List.set_cons_zero, List.set_cons_succ, i64_w, i32_w]
    rfl
  refine take_ (i := 0) (N := some 10) (v := ?_) (a' := ?_) #[true, true, false, false, false, false] rfl rfl (by kernel_rfl) (fun _ _ _ h => h) (Or.inl ⟨by rfl, ?_⟩) hHeld ?_ ?_
  rotate_left
  · rintro w' ⟨s0, s1, s2⟩
    go_simp
    with_reducible rfl
  rotate_left
  · simp only [Act.put, List.setIfInBounds_toArray, List.set_cons_zero, List.set_cons_succ, i64_w, i32_w]
    rfl
  refine one_ (i := 2) (N := some 12) #[true, true, true, false, false, false] rfl rfl (by kernel_rfl) (by decide) (fun K hK => ?_)
  refine goes_ Try.func69 (by kernel_rfl) rfl #[.pointer (some ⟨g1013, 0, none⟩), .int .i64 6] (by rfl) rfl rfl arr_ ?_
  with_reducible refine (spec_l1Below.calls g1013 t1010 t1019 t1020 6 t1022 t1023 t1024 w _ ?side1 ?side2 A4.out).mono ?_
  (case side1 => repeat (first | (with_reducible first | exact HI1013.out | apply IsS122.alloc | apply IsS122.drewN | apply IsS122.drew | apply IsS122.set_1 | apply IsS122.set_2 | refine IsS122.far ?_ NB1013_1009.out _ | refine IsS122.far ?_ NB1013_1021.out _) | exact HI1013.out))
  (case side2 => repeat (first | (with_reducible first | exact HB.out | apply below_alloc | apply pw_below_drewN | apply below_drew1 | refine below_set ?_ (IsS122.ge HI1013.out) | refine below_set ?_ GE1009.out | refine below_set ?_ GE1021.out) | exact HB.out))
  rintro e w15 ⟨rfl, hi, hb, hk⟩
  refine ⟨_, rfl, ?_⟩
  have n0_ := Aside0.mk (KeepBut.blk hk (g' := gb1009) (o := .cells #[.int .i64 0, .int .i64 0, .slice none 0 0] 39 (0, 0)) (bk_ BK1009.out) NB1009_1013.out (by simp))
  have n1_ := Aside0.mk (Kd.R_mono (Kd.R_keep (IsS122.apart (show IsS122 w _ g1013 t1010 t1019 t1020 from by repeat (first | (with_reducible first | exact HI1013.out | apply IsS122.alloc | apply IsS122.drewN | apply IsS122.drew | apply IsS122.set_1 | apply IsS122.set_2 | refine IsS122.far ?_ NB1013_1009.out _ | refine IsS122.far ?_ NB1013_1021.out _) | exact HI1013.out)) (by (with_reducible repeat (first | apply Kd.R_alloc | apply Kd.R_drewN | apply Kd.R_drew)); exact HO1018.out) (by decide)) hk (fun _ h => h.2)) (fun _ h => h.1))
  have n2_ := Aside0.mk (KeepBut.blk hk (g' := gb1021) (o := .cells #[.int .i64 t1014, .int .i64 t1015, .slice Ao12 t1016.length co12] 39 (0, 0)) (bk_ BK1021.out) NB1021_1013.out (by simp))
  have n3_ := Aside0.mk (hb)
  have n4_ := Aside0.mk (hi)
  clear BK1009
  clear HO1018
  clear BK1021
  clear HB
  clear HI1013
  have BK1009 := n0_
  have HO1018 := n1_
  have BK1021 := n2_
  have HB := n3_
  have HI1013 := n4_
  clear n0_ n1_ n2_ n3_ n4_
  (try clear hb)
  (try clear hb2)
  (try clear hk)
  (try clear hi)
  refine hK.out _ _ ⟨(blk_cell BK1021.out 0).trans rfl, (blk_cell BK1021.out 1).trans rfl, (blk_cell BK1021.out 2).trans rfl⟩ (fun hHeld => ?_)
  clear hK K
  refine norm_ (a' := ?_) ?_ ?_
  rotate_left
  · show Act.put _ (some 12) _ = _
    simp only [Act.put, List.setIfInBounds_toArray, List.set_cons_zero, List.set_cons_succ, i64_w, i32_w]
    rfl
  refine pure_ (i := 3) (N := some 13) (v := ?_) (a' := ?_) #[true, true, true, true, false, false] rfl rfl (by kernel_rfl) (fun _ _ _ h => h) (Or.inl ⟨by rfl, ?_⟩) ?_ ?_
  rotate_left
  · intro w'
    go_simp
    with_reducible rfl
  rotate_left
  · simp only [Act.put, List.setIfInBounds_toArray, List.set_cons_zero, List.set_cons_succ, i64_w, i32_w]
    rfl
  refine one_ (i := 4) (N := none) #[true, true, true, true, true, false] rfl rfl (by kernel_rfl) (by decide) (fun K hK => ?_)
  have hs16 : w15.cell? ⟨gb1009, 0, none⟩ = some (.int .i64 0) := (blk_cell BK1009.out 0).trans rfl
  have hfs16 := blk_frozen BK1009.out 0
  have hns16_1 := NB1021_1009.out
  have hms16_1 := NB1009_1021.out
  have hs17 : w15.cell? ⟨gb1009, 1, none⟩ = some (.int .i64 0) := (blk_cell BK1009.out 1).trans rfl
  have hfs17 := blk_frozen BK1009.out 1
  have hns17_1 := NB1021_1009.out
  have hms17_1 := NB1009_1021.out
  have hs18 : w15.cell? ⟨gb1009, 2, none⟩ = some (.slice none 0 0) := (blk_cell BK1009.out 2).trans rfl
  have hfs18 := blk_frozen BK1009.out 2
  have hns18_1 := NB1021_1009.out
  have hms18_1 := NB1009_1021.out
  refine skip_ (w1 := ?_) (by rfl) rfl ?_ ?_
  rotate_left
  · go_simp
    rfl
  refine hK.out _ _ ⟨((cell_far (p := ⟨gb1009, _, none⟩) NB1021_1009.out _).trans (((cell_far (p := ⟨gb1009, _, none⟩) NB1021_1009.out _).trans (((cell_far (p := ⟨gb1009, _, none⟩) NB1021_1009.out _).trans (hHeld.1)))))), ((cell_far (p := ⟨gb1009, _, none⟩) NB1021_1009.out _).trans (((cell_far (p := ⟨gb1009, _, none⟩) NB1021_1009.out _).trans (((cell_far (p := ⟨gb1009, _, none⟩) NB1021_1009.out _).trans (hHeld.2.1)))))), ((cell_far (p := ⟨gb1009, _, none⟩) NB1021_1009.out _).trans (((cell_far (p := ⟨gb1009, _, none⟩) NB1021_1009.out _).trans (((cell_far (p := ⟨gb1009, _, none⟩) NB1021_1009.out _).trans (hHeld.2.2))))))⟩ (fun hHeld => ?_)
  clear hK K
  refine pure_ (i := 5) (N := some 3) (v := ?_) (a' := ?_) #[true, true, true, true, true, true] rfl rfl (by kernel_rfl) (fun _ _ _ h => h) (Or.inl ⟨by rfl, ?_⟩) ?_ ?_
  rotate_left
  · intro w'
    go_simp
    with_reducible rfl
  rotate_left
  · simp only [Act.put, List.setIfInBounds_toArray, List.set_cons_zero, List.set_cons_succ, i64_w, i32_w]
    rfl
  refine done_ (by kernel_rfl) ?_
  try go_wp2
  refine bodyPost_ret (results_ct rfl _ _ gb1009 39 #[.int .i64 t1014, .int .i64 t1015, .slice Ao12 t1016.length co12] (0, 0) _ rfl (by (with_reducible repeat (first | refine blk_drewN ?_ _ | refine blk_drew ?_ | refine blk_alloc ?_ _)); refine blk_put (cs := #[.int .i64 t1014, .int .i64 t1015, .slice none 0 0]) ?_ 2 _ rfl; (with_reducible repeat (first | refine blk_drewN ?_ _ | refine blk_drew ?_ | refine blk_alloc ?_ _)); refine blk_put (cs := #[.int .i64 t1014, .int .i64 0, .slice none 0 0]) ?_ 1 _ rfl; (with_reducible repeat (first | refine blk_drewN ?_ _ | refine blk_drew ?_ | refine blk_alloc ?_ _)); refine blk_put (cs := #[.int .i64 0, .int .i64 0, .slice none 0 0]) ?_ 0 _ rfl; (with_reducible repeat (first | refine blk_drewN ?_ _ | refine blk_drew ?_ | refine blk_alloc ?_ _)); exact BK1009.out) Try.underlying39 rfl (by kernel_rfl)) rfl ?_
  exact ⟨_, er_, by (with_reducible repeat (first | apply Kd.R_alloc | apply Kd.R_drewN | apply Kd.R_drew)); exact Kd.R_mono (Kd.R_far (p := ⟨gb1009, 2, none⟩) (Kd.R_far (p := ⟨gb1009, 1, none⟩) (Kd.R_far (p := ⟨gb1009, 0, none⟩) (Kd.R_types HO1018.out BK1009.out (by decide)) (fun _ hk => hk.2) (.int .i64 t1014)) (fun _ hk => hk.2) (.int .i64 t1015)) (fun _ hk => hk.2) (.slice Ao12 t1016.length co12)) (fun _ hk => trivial), by repeat (first | (with_reducible first | exact HB.out | apply below_alloc | apply pw_below_drewN | apply below_drew1 | refine below_set ?_ (IsS122.ge HI1013.out) | refine below_set ?_ GE1009.out | refine below_set ?_ GE1021.out) | exact HB.out)⟩
def impl_gcd.l0 : Nat → Int → Int → Option (Int)
  | 0, _, _ => none
  | k + 1, x0, x1 => if x1 = 0 then (some x0) else (impl_gcd.l0 k x1 (Int.tmod x0 x1))
def impl_gcd.f (k : Nat) (a0 : Int) (a1 : Int) : Option (Int) := impl_gcd.l0 k a0 a1
set_option maxHeartbeats 8000000 in
set_option maxRecDepth 100000 in
theorem impl_gcd.calls (k : Nat) (a0 : Int) (a1 : Int) (r : Int) (w : World) (h : impl_gcd.f k a0 a1 = some r) :
    Calls Try.prog 102 #[.int .i64 a0, .int .i64 a1] w fun e w' => e = .returned (.int .i64 r) ∧ Drawn0 w w' := by
  have H : (impl_gcd.l0 k a0 a1) = some r := h
  clear h
  have H' := Aside0.mk H
  clear H
  go_enter Try.func102, Try.ntmps102
  go_wp2
  repeat (go_quiet (fail); try go_wp2)
  go_loopg [0, 1] k (fun kq v0 v1 w' => ∃ (x0_1 : Int) (x1_1 : Int), v0 = .int .i64 x0_1 ∧ v1 = .int .i64 x1_1 ∧ Aside0 (impl_gcd.l0 kq x0_1 x1_1 = some r) ∧ Aside0 (kq ≤ k) ∧ Drawn0 w w')
  case atStart => exact ⟨(a0), (a1), (by first | rfl | (simp; done) | (simp [*]; done)), (by first | rfl | (simp; done) | (simp [*]; done)), H', ⟨Nat.le_refl _⟩, by repeat (first | exact Drawn0.refl _ | apply Drawn0.step)⟩
  case round =>
    clear H'
    try clear c1
    try clear p2
    obtain ⟨x0_1, x1_1, rfl, rfl, HA, HK1, ⟨m1, rfl⟩⟩ := hrel
    cases gk with
    | zero => exact absurd HA.out (by simp [impl_gcd.l0])
    | succ k1 =>
      have H := HA.out
      clear HA
      simp only [impl_gcd.l0] at H
      by_cases c3 : x1_1 = 0
      · rw [if_pos c3] at H
        have c3b0 : (x1_1 == 0) = true := beq_iff_eq.mpr c3
        have c3b1 : (x1_1 != 0) = false := bne_eq_false_iff_eq.mpr c3
        clear c3
        obtain rfl := Option.some.inj H
        go_wp2
        repeat (go_quiet (fail); try go_wp2)
        go_ret
        exact ⟨by first | rfl | (simp; done) | (simp [*]; done), by repeat (first | exact Drawn0.refl _ | apply Drawn0.step)⟩
      · rw [if_neg c3] at H
        have c3b0 : (x1_1 == 0) = false := beq_eq_false_iff_ne.mpr c3
        have c3b1 : (x1_1 != 0) = true := bne_iff_ne.mpr c3
        have H' := Aside0.mk H
        clear H
        go_wp2
        repeat (go_quiet (fail); try go_wp2)
        go_roundg k1
        case measure => have := HK1.out; omega
        case rel => exact ⟨(x1_1), (Int.tmod x0_1 x1_1), (by first | rfl | (simp; done) | (simp [*]; done)), (by first | rfl | (simp; done) | (simp [*]; done)), H', ⟨by have := HK1.out; omega⟩, by repeat (first | exact Drawn0.refl _ | apply Drawn0.step)⟩
def impl_size.f (a0 : Int) : Option (Int) := some (mx a0 (wrap64 (-a0)))
set_option maxHeartbeats 8000000 in
set_option maxRecDepth 100000 in
theorem impl_size.calls (a0 : Int) (r : Int) (w : World) (h : impl_size.f a0 = some r) :
    Calls Try.prog 103 #[.int .i64 a0] w fun e w' => e = .returned (.int .i64 r) ∧ Below w.heap.size w w' := by
  have HB := Aside0.mk (Below.refl w.heap.size w)
  have H : (some (mx a0 (wrap64 (-a0)))) = some r := h
  clear h
  obtain ⟨ji2, hji2⟩ : ∃ j_ : Int, (mx a0 (wrap64 (-a0))) = j_ := ⟨_, rfl⟩
  replace H : (some ji2) = some r := by first | (rw [hji2] at H; exact H) | (simp only [hji2] at H ⊢; exact H)
  have hji2_ : (if a0 < (wrap64 (-a0)) then (wrap64 (-a0)) else a0) = ji2 := hji2
  obtain rfl := Option.some.inj H
  go_enter Try.func103, Try.ntmps103
  go_wp2
  go_ret
  exact ⟨by first | rfl | (simp [errW_none, errW_some] <;> rfl) | (simp only [← hji2]; first | rfl | (simp [errW_none, errW_some] <;> rfl)) | (simp [*, errW_none, errW_some] <;> rfl), hb_ HB.out⟩
end Go.Proofs.Ytpjahhljpoeaeaa.P
