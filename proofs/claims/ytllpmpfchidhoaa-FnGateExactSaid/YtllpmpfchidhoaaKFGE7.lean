/- Texts of the seat's proofs, part 7: functions of the program told as plain functions, with their contracts, and what is shown of them. No condition. -/
import Derived.Test.YtllpmpfchidhoaaUKFGE
import Derived.Test.YtllpmpfchidhoaaKFGE1
import Derived.Test.YtllpmpfchidhoaaKFGE6
import Derived.Test.YtllpmpfchidhoaaKFGE5
set_option linter.unusedVariables false
set_option linter.unusedSimpArgs false
namespace Go.Proofs.Ytllpmpfchidhoaa.P
open Go.RowKit Go.Proofs.YtllpmpfchidhoaaW.PrintWords Go.Proofs.YtllpmpfchidhoaaW.PrintLast Go.Proofs.YtllpmpfchidhoaaW.PrintMore
attribute [local go_sem] max2_int min2_int max_two min_two max_three min_three max_four min_four
set_option linter.unusedVariables false
set_option linter.unusedSimpArgs false
mutual
def impl_SlotAt.j0 : Nat → Int → Bool → Int → Int → List (S42) → Option (Int × Int × Bool)
 | 0, _, _, _, _, _ => none
 | k + 1, x1, x26, x448000, x448001, x448002 => if x26 = true then (some (0, 0, false)) else ((impl_Plan_round.f k x448000 x448001 x448002).bind fun t450 => (if t450 = 0 then (none) else ((impl_Plan_round.f k x448000 x448001 x448002).bind fun t451 => (if t451 = 0 then (none) else (impl_SlotAt.l0 k (wrap64 (Int.tdiv (wrap64 (x1 - x448000)) t450)) (Int.tmod (wrap64 (x1 - x448000)) t451) x448002 (x448002.length : Int) 0 x448000 x448001 x448002)))))
def impl_SlotAt.l0 : Nat → Int → Int → List (S42) → Int → Int → Int → Int → List (S42) → Option (Int × Int × Bool)
 | 0, _, _, _, _, _, _, _, _ => none
 | k + 1, x7, x8, x42, x43, x44, x448000, x448001, x448002 => if x44 < x43 then (if 0 ≤ x44 then (if x44 < (x42.length : Int) then ((impl_Plan_from.f k x448000 x448001 x448002 x44).bind fun t454 => ((impl_Plan_from.f k x448000 x448001 x448002 x44).bind fun t455 => ((impl_in.f x8 t454 (wrap64 ((wrap64 (t455 + ((rd_T42 x42 x44).f1))) - 1))).bind fun t456 => (if t456 = true then ((impl_Occurrence.f k x448000 x448001 x448002 x44 x7).bind fun bt457 => (if bt457.2.2 = true then (some (x44, x7, true)) else (some (0, 0, false)))) else (impl_SlotAt.l0 k x7 x8 x42 x43 (wrap64 (x44 + 1)) x448000 x448001 x448002))))) else (none)) else (none)) else (some (0, 0, false))
end
def impl_SlotAt.f (k : Nat) (a0_0 : Int) (a0_1 : Int) (l0_2 : List (S42)) (a1 : Int) : Option (Int × Int × Bool) := (impl_PlanOk.f k a0_0 a0_1 l0_2).bind fun t448 => (if t448 = true then ((impl_isTime.f a1).bind fun t449 => (if t449 = true then (impl_SlotAt.j0 k a1 (decide (a1 < a0_0)) a0_0 a0_1 l0_2) else (impl_SlotAt.j0 k a1 true a0_0 a0_1 l0_2))) else (impl_SlotAt.j0 k a1 true a0_0 a0_1 l0_2))
def impl_SlotAt.T3 : Bool × List (List Nat × List Nat) := (true, [([], []), ([], []), ([1], [1]), ([0, 2], [0, 2]), ([], []), ([4], [4]), ([3, 5], [3, 5]), ([], []), ([], []), ([8], [8]), ([7, 9], [7, 9]), ([], []), ([11, 5], [11]), ([10, 12], [10, 12]), ([6, 12, 0, 1, 2, 3, 4, 5, 6], [6]), ([13, 14, 0, 1, 2, 3, 4, 5, 6, 7, 8, 9, 10, 11, 12, 13, 14], [13])])
def impl_SlotAt.B3 : List Nat := [0, 0, 2, 7, 0, 16, 63, 0, 0, 256, 896, 0, 2096, 8112, 6271, 32767]
theorem impl_SlotAt.tab3 : rtab .any (opsOf Try.f29 3) = impl_SlotAt.T3 := by kernel_rfl
theorem impl_SlotAt.bits3 : waitsOk impl_SlotAt.T3.2 impl_SlotAt.B3 = true := by kernel_rfl
def impl_SlotAt.T7 : Bool × List (List Nat × List Nat) := (true, [([], []), ([], []), ([], []), ([1, 2], [1, 2]), ([], []), ([], []), ([4, 5, 3], [4, 5]), ([], []), ([7], [7]), ([6, 8], [6, 8]), ([9], [9]), ([0, 3, 10, 6], [0, 3, 10])])
def impl_SlotAt.B7 : List Nat := [0, 0, 0, 6, 0, 0, 62, 0, 128, 510, 1022, 2047]
theorem impl_SlotAt.tab7 : rtab .any (opsOf Try.f29 7) = impl_SlotAt.T7 := by kernel_rfl
theorem impl_SlotAt.bits7 : waitsOk impl_SlotAt.T7.2 impl_SlotAt.B7 = true := by kernel_rfl
set_option maxHeartbeats 8000000 in
set_option maxRecDepth 100000 in
theorem impl_SlotAt.calls (k : Nat) (a0_0 : Int) (a0_1 : Int) (A0_2 : Option Addr) (c0_2 : Nat) (l0_2 : List (S42)) (a1 : Int) (r1 : Int) (r2 : Int) (r3 : Bool) (w : World) (hr0_2 : Kd.C k42 w A0_2 l0_2.length l0_2) (hc0_2 : l0_2.length ≤ c0_2) (h : impl_SlotAt.f k a0_0 a0_1 l0_2 a1 = some (r1, r2, r3)) :
  Calls Try.prog 29 #[.agg #[.int .i64 a0_0, .int .i64 a0_1, .slice A0_2 l0_2.length c0_2], .int .i64 a1] w fun e w' => e = .returned (.tuple #[.int .i64 r1, .int .i64 r2, .bool r3]) ∧ Below w.heap.size w w' := by
 have hu30 := Try.underlying30; have hu42 := Try.underlying42; have hu25 := Try.underlying25; have HR0_2 := Aside0.mk hr0_2; have HC0_2 := Aside0.mk hc0_2; clear hr0_2 hc0_2; have HB := am_ (Below.refl w.heap.size w); have H : ((impl_PlanOk.f k a0_0 a0_1 l0_2).bind fun t448 => (if t448 = true then ((impl_isTime.f a1).bind fun t449 => (if t449 = true then (impl_SlotAt.j0 k a1 (decide (a1 < a0_0)) a0_0 a0_1 l0_2) else (impl_SlotAt.j0 k a1 true a0_0 a0_1 l0_2))) else (impl_SlotAt.j0 k a1 true a0_0 a0_1 l0_2))) = some (r1, r2, r3) := h; clear h; have HC3 := Aside0.mk H; clear H; go_enter Try.func29, Try.ntmps29
 go_upto_region 1 with (first | ((with_reducible refine gate_dst (N := 2) rfl ?_); refine be_ (N := 2) (cs := #[.int .i64 a0_0, .int .i64 a0_1, .slice A0_2 l0_2.length c0_2]) (t := 30) ?_; intro gb447 hg w4 hbox hb; have BK447 := am_ (hbox); have GW447 := am_ (hy_ hg (hb_ HB.out) : w.heap.size ≤ gb447); have GE447 := GW447; replace HB := am_ (below_step (hb_ HB.out) hb); clear hb hbox hg))
 (try simp only [Act.put, List.setIfInBounds_toArray, List.set_cons_zero, List.set_cons_succ]); go_cut [26] (fun v26 wc => ∃ (kq : Nat) (x26_2 : Bool), v26 = .bool x26_2 ∧ Aside0 (impl_SlotAt.j0 kq a1 x26_2 a0_0 a0_1 l0_2 = some (r1, r2, r3)) ∧ Aside0 (kq ≤ k) ∧ Aside0 (wc.heap[gb447]? = some (.cells #[.int .i64 a0_0, .int .i64 a0_1, (.slice A0_2 l0_2.length c0_2)] 30 (0, 0))) ∧ Aside0 (Below w.heap.size w wc))
 case first =>
  have H := HC3.out; clear HC3; obtain ⟨t448, A5, H⟩ := ab_ H; by_cases c6 : t448 = true
  ·subst c6; replace H := i1_ H; obtain ⟨t449, A7, H⟩ := ab_ H; by_cases c8 : t449 = true
   ·subst c8; replace H := i1_ H; have H' := Aside0.mk H; clear H; have hcz9_0 := bc_ BK447.out 0 (.int .i64 a0_0) rfl; have hcz9_1 := bc_ BK447.out 1 (.int .i64 a0_1) rfl; have hcz9_2 := bc_ BK447.out 2 (.slice A0_2 l0_2.length c0_2) rfl; have hfz9_0 := blk_frozen BK447.out 0; have hfz9_1 := blk_frozen BK447.out 1; have hfz9_2 := blk_frozen BK447.out 2; go_wp2_with (first | ((with_reducible refine gate_callee (f := 34) rfl ?_); refine gl_ Try.func34 #[.agg #[.int .i64 a0_0, .int .i64 a0_1, .slice A0_2 l0_2.length c0_2]] ?_; (with_reducible refine (impl_PlanOk.calls k a0_0 a0_1 _ _ l0_2 true _ ?side1 ?side2 A5.out).mono ?_); (case side1 => exact kc_ (Kd.C_below HR0_2.out HB.out)); (case side2 => exact HC0_2.out); rintro e w10 ⟨rfl, hb⟩; refine ⟨_, rfl, ?_⟩; replace BK447 := am_ (bb_ BK447.out hb); replace HB := am_ (below_step (hb1_ HB.out GE447.out) hb); (try clear hb); (try clear hb2); (try clear hk); (try clear hi)) | (go_at_call 69; (with_reducible refine (impl_isTime.calls a1 true _ A7.out).mono ?_); rintro e w' ⟨rfl, ⟨nd, rfl⟩⟩; obtain ⟨hcz11_0, hcz11_1, hcz11_2, hfz11_0, hfz11_1, hfz11_2⟩ := bc3_ BK447.out))
    go_meet
    case rel => exact ⟨_, (decide (a1 < a0_0)), (by first | rfl | (simp; done) | (simp [*]; done)), H', ⟨by first | omega | exact Nat.le_refl _⟩, ⟨bk_ BK447.out⟩, ⟨hb1_ HB.out GE447.out⟩⟩
   ·replace c8 := Bool.eq_false_iff.mpr c8; subst c8; replace H := i0_ H; have H' := Aside0.mk H; clear H; have hcz12_0 := bc_ BK447.out 0 (.int .i64 a0_0) rfl; have hcz12_1 := bc_ BK447.out 1 (.int .i64 a0_1) rfl; have hcz12_2 := bc_ BK447.out 2 (.slice A0_2 l0_2.length c0_2) rfl; have hfz12_0 := blk_frozen BK447.out 0; have hfz12_1 := blk_frozen BK447.out 1; have hfz12_2 := blk_frozen BK447.out 2; go_wp2_with (first | ((with_reducible refine gate_callee (f := 34) rfl ?_); refine gl_ Try.func34 #[.agg #[.int .i64 a0_0, .int .i64 a0_1, .slice A0_2 l0_2.length c0_2]] ?_; (with_reducible refine (impl_PlanOk.calls k a0_0 a0_1 _ _ l0_2 true _ ?side1 ?side2 A5.out).mono ?_); (case side1 => exact kc_ (Kd.C_below HR0_2.out HB.out)); (case side2 => exact HC0_2.out); rintro e w13 ⟨rfl, hb⟩; refine ⟨_, rfl, ?_⟩; replace BK447 := am_ (bb_ BK447.out hb); replace HB := am_ (below_step (hb1_ HB.out GE447.out) hb); (try clear hb); (try clear hb2); (try clear hk); (try clear hi)) | (go_at_call 69; (with_reducible refine (impl_isTime.calls a1 false _ A7.out).mono ?_); rintro e w' ⟨rfl, ⟨nd, rfl⟩⟩))
    go_meet
    case rel => exact ⟨_, (true), (by first | rfl | (simp; done) | (simp [*]; done)), H', ⟨by first | omega | exact Nat.le_refl _⟩, ⟨bk_ BK447.out⟩, ⟨hb1_ HB.out GE447.out⟩⟩
  ·replace c6 := Bool.eq_false_iff.mpr c6; subst c6; replace H := i0_ H; have H' := Aside0.mk H; clear H; have hcz14_0 := bc_ BK447.out 0 (.int .i64 a0_0) rfl; have hcz14_1 := bc_ BK447.out 1 (.int .i64 a0_1) rfl; have hcz14_2 := bc_ BK447.out 2 (.slice A0_2 l0_2.length c0_2) rfl; have hfz14_0 := blk_frozen BK447.out 0; have hfz14_1 := blk_frozen BK447.out 1; have hfz14_2 := blk_frozen BK447.out 2; go_wp2_with (first | ((with_reducible refine gate_callee (f := 34) rfl ?_); refine gl_ Try.func34 #[.agg #[.int .i64 a0_0, .int .i64 a0_1, .slice A0_2 l0_2.length c0_2]] ?_; (with_reducible refine (impl_PlanOk.calls k a0_0 a0_1 _ _ l0_2 false _ ?side1 ?side2 A5.out).mono ?_); (case side1 => exact kc_ (Kd.C_below HR0_2.out HB.out)); (case side2 => exact HC0_2.out); rintro e w15 ⟨rfl, hb⟩; refine ⟨_, rfl, ?_⟩; replace BK447 := am_ (bb_ BK447.out hb); replace HB := am_ (below_step (hb1_ HB.out GE447.out) hb); (try clear hb); (try clear hb2); (try clear hk); (try clear hi)))
   go_meet
   case rel => exact ⟨_, (true), (by first | rfl | (simp; done) | (simp [*]; done)), H', ⟨by first | omega | exact Nat.le_refl _⟩, ⟨bk_ BK447.out⟩, ⟨hb1_ HB.out GE447.out⟩⟩
 case rest =>
  clear HC3; (try clear c6); (try clear c8); (try clear hcz11_0); (try clear hcz11_1); (try clear hcz11_2); (try clear hcz12_0); (try clear hcz12_1); (try clear hcz12_2); (try clear hcz14_0); (try clear hcz14_1); (try clear hcz14_2); (try clear hcz9_0); (try clear hcz9_1); (try clear hcz9_2); (try clear hfz11_0); (try clear hfz11_1); (try clear hfz11_2); (try clear hfz12_0); (try clear hfz12_1); (try clear hfz12_2); (try clear hfz14_0); (try clear hfz14_1); (try clear hfz14_2); (try clear hfz9_0); (try clear hfz9_1); (try clear hfz9_2); obtain ⟨kq, x26_2, rfl, HA, HJ2, BK447, HB⟩ := hcut
  cases kq with
  | zero => exact absurd HA.out (by simp [impl_SlotAt.j0])
  | succ kj2 =>
   have H := HA.out; clear HA; simp only [impl_SlotAt.j0] at H
   by_cases c16 : x26_2 = true
   ·subst c16; replace H := i1_ H; simp only [Option.some.injEq, Prod.mk.injEq] at H
    obtain ⟨rfl, rfl, rfl⟩ := H; go_wp2
    go_ret3
    exact ⟨er_, hb1_ HB.out GE447.out⟩
   ·replace c16 := Bool.eq_false_iff.mpr c16; subst c16; replace H := i0_ H; obtain ⟨t450, A17, H⟩ := ab_ H; by_cases c18 : t450 = 0
    ·rw [if_pos c18] at H; exact absurd H (by simp)
    ·rw [if_neg c18] at H; have c18b0 : (t450 == 0) = false := beq_eq_false_iff_ne.mpr c18; have c18b1 : (t450 != 0) = true := bne_iff_ne.mpr c18; obtain ⟨t451, A19, H⟩ := ab_ H; by_cases c20 : t451 = 0
     ·rw [if_pos c20] at H; exact absurd H (by simp)
     ·rw [if_neg c20] at H; have c20b0 : (t451 == 0) = false := beq_eq_false_iff_ne.mpr c20; have c20b1 : (t451 != 0) = true := bne_iff_ne.mpr c20; have H' := Aside0.mk H; clear H; try go_wp2
      have n0_ := am_ (blk_drew BK447.out); have n1_ := am_ (below_drew1 HB.out); clear BK447; clear HB; have BK447 := n0_; have HB := n1_; clear n0_ n1_; refine start_ (n := 16) (S := fun w' => w'.cell? ⟨gb447, 0, none⟩ = some (.int .i64 a0_0) ∧ w'.cell? ⟨gb447, 1, none⟩ = some (.int .i64 a0_1) ∧ w'.cell? ⟨gb447, 2, none⟩ = some (.slice A0_2 l0_2.length c0_2)) (ds := []) #[false, false, false, false, false, false, false, false, false, false, false, false, false, false, false, false] (by kernel_rfl) rfl rfl ⟨(blk_cell BK447.out 0).trans rfl, (blk_cell BK447.out 1).trans rfl, (blk_cell BK447.out 2).trans rfl⟩ (fun hHeld => ?_); refine with_tabW impl_SlotAt.tab3 impl_SlotAt.bits3 (fun HT_ HW_ => ?_)
      generalize wc.drew = w21 at BK447 HB hHeld ⊢
      refine pure_ (i := 0) (N := some 27) (v := ?_) (a' := ?_) #[true, false, false, false, false, false, false, false, false, false, false, false, false, false, false, false] rfl rfl (any_of HT_.out (by kernel_rfl)) (fun _ _ _ h => h) (Or.inl ⟨by rfl, ?_⟩) ?_ ?_
      rotate_left
      ·intro w'; go_simp
       with_reducible rfl
      rotate_left
      ·simp only [Act.put, List.setIfInBounds_toArray, List.set_cons_zero, List.set_cons_succ, i64_w, i32_w]
       rfl
      refine pure_ (i := 1) (N := some 28) (v := ?_) (a' := ?_) #[true, true, false, false, false, false, false, false, false, false, false, false, false, false, false, false] rfl rfl (any_of HT_.out (by kernel_rfl)) (fun _ _ _ h => h) (Or.inl ⟨by rfl, ?_⟩) ?_ ?_
      rotate_left
      ·intro w'; go_simp
       with_reducible rfl
      rotate_left
      ·simp only [Act.put, List.setIfInBounds_toArray, List.set_cons_zero, List.set_cons_succ, i64_w, i32_w]
       rfl
      refine pure_ (i := 7) (N := some 34) (v := ?_) (a' := ?_) #[true, true, false, false, false, false, false, true, false, false, false, false, false, false, false, false] rfl rfl (any_of HT_.out (by kernel_rfl)) (fun _ _ _ h => h) (Or.inl ⟨by rfl, ?_⟩) ?_ ?_
      rotate_left
      ·intro w'; go_simp
       with_reducible rfl
      rotate_left
      ·simp only [Act.put, List.setIfInBounds_toArray, List.set_cons_zero, List.set_cons_succ, i64_w, i32_w]
       rfl
      refine pure_ (i := 8) (N := some 35) (v := ?_) (a' := ?_) #[true, true, false, false, false, false, false, true, true, false, false, false, false, false, false, false] rfl rfl (any_of HT_.out (by kernel_rfl)) (fun _ _ _ h => h) (Or.inl ⟨by rfl, ?_⟩) ?_ ?_
      rotate_left
      ·intro w'; go_simp
       with_reducible rfl
      rotate_left
      ·simp only [Act.put, List.setIfInBounds_toArray, List.set_cons_zero, List.set_cons_succ, i64_w, i32_w]
       rfl
      refine take_ (i := 2) (N := some 29) (v := ?_) (a' := ?_) #[true, true, true, false, false, false, false, true, true, false, false, false, false, false, false, false] rfl rfl (take_ofW HT_.out HW_.out (by kernel_rfl)) (fun _ _ _ h => h) (Or.inl ⟨by rfl, ?_⟩) hHeld ?_ ?_
      rotate_left
      ·rintro w' ⟨s0, s1, s2⟩; go_simp
       with_reducible rfl
      rotate_left
      ·simp only [Act.put, List.setIfInBounds_toArray, List.set_cons_zero, List.set_cons_succ, i64_w, i32_w]
       rfl
      refine pure_ (i := 3) (N := some 30) (v := ?_) (a' := ?_) #[true, true, true, true, false, false, false, true, true, false, false, false, false, false, false, false] rfl rfl (any_of HT_.out (by kernel_rfl)) (fun _ _ _ h => h) (Or.inl ⟨by rfl, ?_⟩) ?_ ?_
      rotate_left
      ·intro w'; go_simp
       with_reducible rfl
      rotate_left
      ·simp only [Act.put, List.setIfInBounds_toArray, List.set_cons_zero, List.set_cons_succ, i64_w, i32_w]
       rfl
      refine take_ (i := 4) (N := some 31) (v := ?_) (a' := ?_) #[true, true, true, true, true, false, false, true, true, false, false, false, false, false, false, false] rfl rfl (take_ofW HT_.out HW_.out (by kernel_rfl)) (fun _ _ _ h => h) (Or.inl ⟨by rfl, ?_⟩) hHeld ?_ ?_
      rotate_left
      ·rintro w' ⟨s0, s1, s2⟩; go_simp
       with_reducible rfl
      rotate_left
      ·simp only [Act.put, List.setIfInBounds_toArray, List.set_cons_zero, List.set_cons_succ, i64_w, i32_w]
       rfl
      refine take_ (i := 9) (N := some 36) (v := ?_) (a' := ?_) #[true, true, true, true, true, false, false, true, true, true, false, false, false, false, false, false] rfl rfl (take_ofW HT_.out HW_.out (by kernel_rfl)) (fun _ _ _ h => h) (Or.inl ⟨by rfl, ?_⟩) hHeld ?_ ?_
      rotate_left
      ·rintro w' ⟨s0, s1, s2⟩; go_simp
       with_reducible rfl
      rotate_left
      ·simp only [Act.put, List.setIfInBounds_toArray, List.set_cons_zero, List.set_cons_succ, i64_w, i32_w]
       rfl
      refine pure_ (i := 10) (N := some 37) (v := ?_) (a' := ?_) #[true, true, true, true, true, false, false, true, true, true, true, false, false, false, false, false] rfl rfl (any_of HT_.out (by kernel_rfl)) (fun _ _ _ h => h) (Or.inl ⟨by rfl, ?_⟩) ?_ ?_
      rotate_left
      ·intro w'; go_simp
       with_reducible rfl
      rotate_left
      ·simp only [Act.put, List.setIfInBounds_toArray, List.set_cons_zero, List.set_cons_succ, i64_w, i32_w]
       rfl
      refine take_ (i := 11) (N := some 38) (v := ?_) (a' := ?_) #[true, true, true, true, true, false, false, true, true, true, true, true, false, false, false, false] rfl rfl (take_ofW HT_.out HW_.out (by kernel_rfl)) (fun _ _ _ h => h) (Or.inl ⟨by rfl, ?_⟩) hHeld ?_ ?_
      rotate_left
      ·rintro w' ⟨s0, s1, s2⟩; go_simp
       with_reducible rfl
      rotate_left
      ·simp only [Act.put, List.setIfInBounds_toArray, List.set_cons_zero, List.set_cons_succ, i64_w, i32_w]
       rfl
      refine one_ (i := 5) (N := some 32) #[true, true, true, true, true, true, false, true, true, true, true, true, false, false, false, false] rfl rfl (one_of HT_.out (by kernel_rfl)) (by decide) (fun K hK => ?_)
      refine goes_ Try.func59 (by kernel_rfl) rfl #[.agg #[.int .i64 a0_0, .int .i64 a0_1, .slice A0_2 l0_2.length c0_2]] (by rfl) rfl rfl arr_ ?_
      with_reducible refine (impl_Plan_round.calls kj2 a0_0 a0_1 _ _ l0_2 t450 _ ?side1 ?side2 A17.out).mono ?_
      (case side1 => exact kc_ (Kd.C_below HR0_2.out HB.out))
      (case side2 => exact HC0_2.out)
      rintro e w22 ⟨rfl, hb⟩; refine ⟨_, rfl, ?_⟩
      have n0_ := am_ (bb_ BK447.out hb); have n1_ := am_ (below_step (hb1_ HB.out GE447.out) hb); clear BK447; clear HB; have BK447 := n0_; have HB := n1_; clear n0_ n1_; (try clear hb); (try clear hb2); (try clear hk); (try clear hi); refine hK.out _ _ ⟨(blk_cell BK447.out 0).trans rfl, (blk_cell BK447.out 1).trans rfl, (blk_cell BK447.out 2).trans rfl⟩ (fun hHeld => ?_)
      clear hK K; refine norm_ (a' := ?_) ?_ ?_
      rotate_left
      ·show Act.put _ (some 32) _ = _
       simp only [Act.put, List.setIfInBounds_toArray, List.set_cons_zero, List.set_cons_succ, i64_w, i32_w]
       rfl
      refine pure_ (i := 6) (N := some 33) (v := ?_) (a' := ?_) #[true, true, true, true, true, true, true, true, true, true, true, true, false, false, false, false] rfl rfl (any_of HT_.out (by kernel_rfl)) (fun _ _ _ h => h) (Or.inl ⟨by rfl, ?_⟩) ?_ ?_
      rotate_left
      ·intro w'; go_simp
       with_reducible rfl
      rotate_left
      ·simp only [Act.put, List.setIfInBounds_toArray, List.set_cons_zero, List.set_cons_succ, i64_w, i32_w]
       rfl
      refine one_ (i := 12) (N := some 39) #[true, true, true, true, true, true, true, true, true, true, true, true, true, false, false, false] rfl rfl (one_of HT_.out (by kernel_rfl)) (by decide) (fun K hK => ?_)
      refine goes_ Try.func59 (by kernel_rfl) rfl #[.agg #[.int .i64 a0_0, .int .i64 a0_1, .slice A0_2 l0_2.length c0_2]] (by rfl) rfl rfl arr_ ?_
      with_reducible refine (impl_Plan_round.calls kj2 a0_0 a0_1 _ _ l0_2 t451 _ ?side1 ?side2 A19.out).mono ?_
      (case side1 => exact kc_ (Kd.C_below HR0_2.out HB.out))
      (case side2 => exact HC0_2.out)
      rintro e w23 ⟨rfl, hb⟩; refine ⟨_, rfl, ?_⟩
      have n0_ := am_ (bb_ BK447.out hb); have n1_ := am_ (below_step (hb1_ HB.out GE447.out) hb); clear BK447; clear HB; have BK447 := n0_; have HB := n1_; clear n0_ n1_; (try clear hb); (try clear hb2); (try clear hk); (try clear hi); refine hK.out _ _ ⟨(blk_cell BK447.out 0).trans rfl, (blk_cell BK447.out 1).trans rfl, (blk_cell BK447.out 2).trans rfl⟩ (fun hHeld => ?_)
      clear hK K; refine norm_ (a' := ?_) ?_ ?_
      rotate_left
      ·show Act.put _ (some 39) _ = _
       simp only [Act.put, List.setIfInBounds_toArray, List.set_cons_zero, List.set_cons_succ, i64_w, i32_w]
       rfl
      refine pure_ (i := 13) (N := some 40) (v := ?_) (a' := ?_) #[true, true, true, true, true, true, true, true, true, true, true, true, true, true, false, false] rfl rfl (any_of HT_.out (by kernel_rfl)) (fun _ _ _ h => h) (Or.inl ⟨by rfl, ?_⟩) ?_ ?_
      rotate_left
      ·intro w'; go_simp
       with_reducible rfl
      rotate_left
      ·simp only [Act.put, List.setIfInBounds_toArray, List.set_cons_zero, List.set_cons_succ, i64_w, i32_w]
       rfl
      refine pure_ (i := 14) (N := some 7) (v := ?_) (a' := ?_) #[true, true, true, true, true, true, true, true, true, true, true, true, true, true, true, false] rfl rfl (any_of HT_.out (by kernel_rfl)) (fun _ _ _ h => h) (Or.inl ⟨by rfl, ?_⟩) ?_ ?_
      rotate_left
      ·intro w'; go_simp
       with_reducible rfl
      rotate_left
      ·simp only [Act.put, List.setIfInBounds_toArray, List.set_cons_zero, List.set_cons_succ, i64_w, i32_w]
       rfl
      refine pure_ (i := 15) (N := some 8) (v := ?_) (a' := ?_) #[true, true, true, true, true, true, true, true, true, true, true, true, true, true, true, true] rfl rfl (any_of HT_.out (by kernel_rfl)) (fun _ _ _ h => h) (Or.inl ⟨by rfl, ?_⟩) ?_ ?_
      rotate_left
      ·intro w'; go_simp
       with_reducible rfl
      rotate_left
      ·simp only [Act.put, List.setIfInBounds_toArray, List.set_cons_zero, List.set_cons_succ, i64_w, i32_w]
       rfl
      refine done_ (done_of HT_.out (by kernel_rfl)) ?_
      have hcz24_0 := bc_ BK447.out 0 (.int .i64 a0_0) rfl; have hcz24_1 := bc_ BK447.out 1 (.int .i64 a0_1) rfl; have hcz24_2 := bc_ BK447.out 2 (.slice A0_2 l0_2.length c0_2) rfl; have hfz24_0 := blk_frozen BK447.out 0; have hfz24_1 := blk_frozen BK447.out 1; have hfz24_2 := blk_frozen BK447.out 2; try go_wp2
      go_loopg [44] kj2 (fun kq v44 w' => ∃ (x44_2 : Int), v44 = .int .i64 x44_2 ∧ Aside0 (impl_SlotAt.l0 kq (wrap64 (Int.tdiv (wrap64 (a1 - a0_0)) t450)) (Int.tmod (wrap64 (a1 - a0_0)) t451) l0_2 (l0_2.length : Int) x44_2 a0_0 a0_1 l0_2 = some (r1, r2, r3)) ∧ Aside0 (kq ≤ kj2) ∧ Aside0 (w'.heap[gb447]? = some (.cells #[.int .i64 a0_0, .int .i64 a0_1, (.slice A0_2 l0_2.length c0_2)] 30 (0, 0))) ∧ Aside0 (Below w.heap.size w w'))
      case atStart => exact ⟨(0), (by first | rfl | (simp; done) | (simp [*]; done)), H', ⟨Nat.le_refl _⟩, ⟨bk_ BK447.out⟩, ⟨hb1_ HB.out GE447.out⟩⟩
      case round =>
       clear H'; (try clear c6); (try clear c8); (try clear c16); (try clear c18); (try clear c18b0); (try clear c18b1); (try clear c20); (try clear c20b0); (try clear c20b1); (try clear hcz11_0); (try clear hcz11_1); (try clear hcz11_2); (try clear hcz12_0); (try clear hcz12_1); (try clear hcz12_2); (try clear hcz14_0); (try clear hcz14_1); (try clear hcz14_2); (try clear hcz24_0); (try clear hcz24_1); (try clear hcz24_2); (try clear hcz9_0); (try clear hcz9_1); (try clear hcz9_2); (try clear hfz11_0); (try clear hfz11_1); (try clear hfz11_2); (try clear hfz12_0); (try clear hfz12_1); (try clear hfz12_2); (try clear hfz14_0); (try clear hfz14_1); (try clear hfz14_2); (try clear hfz24_0); (try clear hfz24_1); (try clear hfz24_2); (try clear hfz9_0); (try clear hfz9_1); (try clear hfz9_2); obtain ⟨x44_2, rfl, HA, HK2, BK447, HB⟩ := hrel
       cases gk with
       | zero => exact absurd HA.out (by simp [impl_SlotAt.l0])
       | succ k2 =>
        have H := HA.out; clear HA; simp only [impl_SlotAt.l0] at H
        by_cases c25 : x44_2 < (l0_2.length : Int)
        ·rw [if_pos c25] at H; have c25b0 : decide (x44_2 < (l0_2.length : Int)) = true := decide_eq_true c25; clear c25; by_cases c26 : 0 ≤ x44_2
         ·rw [if_pos c26] at H; have c26b0 : decide (0 ≤ x44_2) = true := decide_eq_true c26; clear c26; by_cases c27 : x44_2 < (l0_2.length : Int)
          ·rw [if_pos c27] at H; have c27b0 : decide (x44_2 < (l0_2.length : Int)) = true := decide_eq_true c27; clear c27; obtain ⟨t454, A28, H⟩ := ab_ H; obtain ⟨t455, A29, H⟩ := ab_ H; obtain ⟨t456, A30, H⟩ := ab_ H; by_cases c31 : t456 = true
           ·subst c31; replace H := i1_ H; obtain ⟨⟨t457, t458, t459⟩, A32, H⟩ := ab_ H; (try dsimp only at H); by_cases c33 : t459 = true
            ·subst c33; replace H := i1_ H; simp only [Option.some.injEq, Prod.mk.injEq] at H
             obtain ⟨rfl, rfl, rfl⟩ := H; have p452 : 0 ≤ (x44_2 : Int) := of_decide_eq_true (by first | (with_reducible assumption) | assumption); have q452 : x44_2 < (l0_2.length : Int) := of_decide_eq_true (by first | (with_reducible assumption) | assumption); obtain ⟨ad452, e452, hx452_0, hx452_1⟩ := at_T42 HR0_2.out x44_2 p452 q452
             cases e452
             replace hx452_0 := (HB.out.cell (World.block_lt_of_cell? w _ hx452_0)).trans hx452_0; replace hx452_1 := (HB.out.cell (World.block_lt_of_cell? w _ hx452_1)).trans hx452_1; replace p452 := eq_true p452; replace q452 := eq_true q452; try go_wp2_with (first | ((with_reducible refine gate_dst (N := 10) rfl ?_); refine be_ (N := 10) (cs := #[.int .i64 0, .int .i64 0]) (t := 42) ?_; intro gb453 hg w34 hbox hb; have BK453 := am_ (hbox); have GW453 := am_ (hy_ hg (hb1_ HB.out GE447.out) : w.heap.size ≤ gb453); have GE453 := GW453; have NB447_453 := am_ (bl_ hg BK447.out : gb447 ≠ gb453); have NB453_447 := nb_ NB447_453; replace BK447 := am_ (bb_ BK447.out hb); replace HB := am_ (below_step (hb1_ HB.out GE447.out) hb); clear hb hbox hg; have hnb35 := NB453_447.out; have hnc35 := NB447_453.out; obtain ⟨hcz36_0, hcz36_1, hfz36_0, hfz36_1⟩ := bc2_ BK453.out))
             have n0_ : Aside0 (((w34.setCell ⟨gb453, 0, none⟩ (.int .i64 ((rd_T42 l0_2 x44_2).f0))).setCell ⟨gb453, 1, none⟩ (.int .i64 ((rd_T42 l0_2 x44_2).f1))).heap[gb447]? = some (.cells #[.int .i64 a0_0, .int .i64 a0_1, .slice (some ad452) l0_2.length c0_2] 30 (0, 0))) := ⟨by (with_reducible repeat (first | refine blk_drewN ?_ _ | refine blk_drew ?_ | refine blk_alloc ?_ _)); refine blk_far ?_ NB447_453.out _; (with_reducible repeat (first | refine blk_drewN ?_ _ | refine blk_drew ?_ | refine blk_alloc ?_ _)); refine blk_far ?_ NB447_453.out _; (with_reducible repeat (first | refine blk_drewN ?_ _ | refine blk_drew ?_ | refine blk_alloc ?_ _)); exact BK447.out⟩; have n1_ : Aside0 (((w34.setCell ⟨gb453, 0, none⟩ (.int .i64 ((rd_T42 l0_2 x44_2).f0))).setCell ⟨gb453, 1, none⟩ (.int .i64 ((rd_T42 l0_2 x44_2).f1))).heap[gb453]? = some (.cells #[.int .i64 ((rd_T42 l0_2 x44_2).f0), .int .i64 ((rd_T42 l0_2 x44_2).f1)] 42 (0, 0))) := ⟨by (with_reducible repeat (first | refine blk_drewN ?_ _ | refine blk_drew ?_ | refine blk_alloc ?_ _)); refine blk_put (cs := #[.int .i64 ((rd_T42 l0_2 x44_2).f0), .int .i64 0]) ?_ 1 _ rfl; (with_reducible repeat (first | refine blk_drewN ?_ _ | refine blk_drew ?_ | refine blk_alloc ?_ _)); refine blk_put (cs := #[.int .i64 0, .int .i64 0]) ?_ 0 _ rfl; (with_reducible repeat (first | refine blk_drewN ?_ _ | refine blk_drew ?_ | refine blk_alloc ?_ _)); exact BK453.out⟩
             have n2_ : Aside0 (Below w.heap.size w ((w34.setCell ⟨gb453, 0, none⟩ (.int .i64 ((rd_T42 l0_2 x44_2).f0))).setCell ⟨gb453, 1, none⟩ (.int .i64 ((rd_T42 l0_2 x44_2).f1)))) := ⟨hb2_ HB.out GE447.out GE453.out⟩; (try clear BK447); (try clear BK453); (try clear HB); generalize ((w34.setCell ⟨gb453, 0, none⟩ (.int .i64 ((rd_T42 l0_2 x44_2).f0))).setCell ⟨gb453, 1, none⟩ (.int .i64 ((rd_T42 l0_2 x44_2).f1))) = w37 at n0_ n1_ n2_ ⊢
             have BK447 := n0_; have BK453 := n1_; have HB := n2_; clear n0_ n1_ n2_; have n0_ := am_ (blk_drew BK447.out); have n1_ := am_ (blk_drew BK453.out); have n2_ := am_ (below_drew1 HB.out); clear BK447; clear BK453; clear HB; have BK447 := n0_; have BK453 := n1_; have HB := n2_; clear n0_ n1_ n2_; refine start_ (n := 12) (S := fun w' => w'.cell? ⟨gb447, 0, none⟩ = some (.int .i64 a0_0) ∧ w'.cell? ⟨gb447, 1, none⟩ = some (.int .i64 a0_1) ∧ w'.cell? ⟨gb447, 2, none⟩ = some (.slice (some ad452) l0_2.length c0_2) ∧ w'.cell? ⟨gb453, 0, none⟩ = some (.int .i64 ((rd_T42 l0_2 x44_2).f0)) ∧ w'.cell? ⟨gb453, 1, none⟩ = some (.int .i64 ((rd_T42 l0_2 x44_2).f1))) (ds := []) #[false, false, false, false, false, false, false, false, false, false, false, false] (by kernel_rfl) rfl rfl ⟨(blk_cell BK447.out 0).trans rfl, (blk_cell BK447.out 1).trans rfl, (blk_cell BK447.out 2).trans rfl, (blk_cell BK453.out 0).trans rfl, (blk_cell BK453.out 1).trans rfl⟩ (fun hHeld => ?_); refine with_tabW impl_SlotAt.tab7 impl_SlotAt.bits7 (fun HT_ HW_ => ?_)
             generalize w37.drew = w38 at BK447 BK453 HB hHeld ⊢
             refine pure_ (i := 0) (N := some 49) (v := ?_) (a' := ?_) #[true, false, false, false, false, false, false, false, false, false, false, false] rfl rfl (any_of HT_.out (by kernel_rfl)) (fun _ _ _ h => h) (Or.inl ⟨by rfl, ?_⟩) ?_ ?_
             rotate_left
             ·intro w'; go_simp
              with_reducible rfl
             rotate_left
             ·simp only [Act.put, List.setIfInBounds_toArray, List.set_cons_zero, List.set_cons_succ, i64_w, i32_w]
              rfl
             refine pure_ (i := 2) (N := some 51) (v := ?_) (a' := ?_) #[true, false, true, false, false, false, false, false, false, false, false, false] rfl rfl (any_of HT_.out (by kernel_rfl)) (fun _ _ _ h => h) (Or.inl ⟨by rfl, ?_⟩) ?_ ?_
             rotate_left
             ·intro w'; go_simp
              with_reducible rfl
             rotate_left
             ·simp only [Act.put, List.setIfInBounds_toArray, List.set_cons_zero, List.set_cons_succ, i64_w, i32_w]
              rfl
             refine pure_ (i := 5) (N := some 54) (v := ?_) (a' := ?_) #[true, false, true, false, false, true, false, false, false, false, false, false] rfl rfl (any_of HT_.out (by kernel_rfl)) (fun _ _ _ h => h) (Or.inl ⟨by rfl, ?_⟩) ?_ ?_
             rotate_left
             ·intro w'; go_simp
              with_reducible rfl
             rotate_left
             ·simp only [Act.put, List.setIfInBounds_toArray, List.set_cons_zero, List.set_cons_succ, i64_w, i32_w]
              rfl
             refine pure_ (i := 7) (N := some 56) (v := ?_) (a' := ?_) #[true, false, true, false, false, true, false, true, false, false, false, false] rfl rfl (any_of HT_.out (by kernel_rfl)) (fun _ _ _ h => h) (Or.inl ⟨by rfl, ?_⟩) ?_ ?_
             rotate_left
             ·intro w'; go_simp
              with_reducible rfl
             rotate_left
             ·simp only [Act.put, List.setIfInBounds_toArray, List.set_cons_zero, List.set_cons_succ, i64_w, i32_w]
              rfl
             refine take_ (i := 1) (N := some 50) (v := ?_) (a' := ?_) #[true, true, true, false, false, true, false, true, false, false, false, false] rfl rfl (take_ofW HT_.out HW_.out (by kernel_rfl)) (fun _ _ _ h => h) (Or.inl ⟨by rfl, ?_⟩) hHeld ?_ ?_
             rotate_left
             ·rintro w' ⟨s0, s1, s2, s3, s4⟩; go_simp
              with_reducible rfl
             rotate_left
             ·simp only [Act.put, List.setIfInBounds_toArray, List.set_cons_zero, List.set_cons_succ, i64_w, i32_w]
              rfl
             refine take_ (i := 4) (N := some 53) (v := ?_) (a' := ?_) #[true, true, true, false, true, true, false, true, false, false, false, false] rfl rfl (take_ofW HT_.out HW_.out (by kernel_rfl)) (fun _ _ _ h => h) (Or.inl ⟨by rfl, ?_⟩) hHeld ?_ ?_
             rotate_left
             ·rintro w' ⟨s0, s1, s2, s3, s4⟩; go_simp
              with_reducible rfl
             rotate_left
             ·simp only [Act.put, List.setIfInBounds_toArray, List.set_cons_zero, List.set_cons_succ, i64_w, i32_w]
              rfl
             refine take_ (i := 8) (N := some 57) (v := ?_) (a' := ?_) #[true, true, true, false, true, true, false, true, true, false, false, false] rfl rfl (take_ofW HT_.out HW_.out (by kernel_rfl)) (fun _ _ _ h => h) (Or.inl ⟨by rfl, ?_⟩) hHeld ?_ ?_
             rotate_left
             ·rintro w' ⟨s0, s1, s2, s3, s4⟩; go_simp
              with_reducible rfl
             rotate_left
             ·simp only [Act.put, List.setIfInBounds_toArray, List.set_cons_zero, List.set_cons_succ, i64_w, i32_w]
              rfl
             refine one_ (i := 3) (N := some 52) #[true, true, true, true, true, true, false, true, true, false, false, false] rfl rfl (one_of HT_.out (by kernel_rfl)) (by decide) (fun K hK => ?_)
             refine goes_ Try.func60 (by kernel_rfl) rfl #[.agg #[.int .i64 a0_0, .int .i64 a0_1, .slice (some ad452) l0_2.length c0_2], .int .i64 x44_2] (by rfl) rfl rfl arr_ ?_
             with_reducible refine (impl_Plan_from.calls k2 a0_0 a0_1 _ _ l0_2 x44_2 t454 _ ?side1 ?side2 A28.out).mono ?_
             (case side1 => exact kc_ (Kd.C_below HR0_2.out HB.out))
             (case side2 => exact HC0_2.out)
             rintro e w39 ⟨rfl, hb⟩; refine ⟨_, rfl, ?_⟩
             have n0_ := am_ (bb_ BK447.out hb); have n1_ := am_ (bb_ BK453.out hb); have n2_ := am_ (below_step (hb2_ HB.out GE447.out GE453.out) hb); clear BK447; clear BK453; clear HB; have BK447 := n0_; have BK453 := n1_; have HB := n2_; clear n0_ n1_ n2_; (try clear hb); (try clear hb2); (try clear hk); (try clear hi); refine hK.out _ _ ⟨(blk_cell BK447.out 0).trans rfl, (blk_cell BK447.out 1).trans rfl, (blk_cell BK447.out 2).trans rfl, (blk_cell BK453.out 0).trans rfl, (blk_cell BK453.out 1).trans rfl⟩ (fun hHeld => ?_)
             clear hK K; refine norm_ (a' := ?_) ?_ ?_
             rotate_left
             ·show Act.put _ (some 52) _ = _
              simp only [Act.put, List.setIfInBounds_toArray, List.set_cons_zero, List.set_cons_succ, i64_w, i32_w]
              rfl
             refine one_ (i := 6) (N := some 55) #[true, true, true, true, true, true, true, true, true, false, false, false] rfl rfl (one_of HT_.out (by kernel_rfl)) (by decide) (fun K hK => ?_)
             refine goes_ Try.func60 (by kernel_rfl) rfl #[.agg #[.int .i64 a0_0, .int .i64 a0_1, .slice (some ad452) l0_2.length c0_2], .int .i64 x44_2] (by rfl) rfl rfl arr_ ?_
             with_reducible refine (impl_Plan_from.calls k2 a0_0 a0_1 _ _ l0_2 x44_2 t455 _ ?side1 ?side2 A29.out).mono ?_
             (case side1 => exact kc_ (Kd.C_below HR0_2.out HB.out))
             (case side2 => exact HC0_2.out)
             rintro e w40 ⟨rfl, hb⟩; refine ⟨_, rfl, ?_⟩
             have n0_ := am_ (bb_ BK447.out hb); have n1_ := am_ (bb_ BK453.out hb); have n2_ := am_ (below_step (hb2_ HB.out GE447.out GE453.out) hb); clear BK447; clear BK453; clear HB; have BK447 := n0_; have BK453 := n1_; have HB := n2_; clear n0_ n1_ n2_; (try clear hb); (try clear hb2); (try clear hk); (try clear hi); refine hK.out _ _ ⟨(blk_cell BK447.out 0).trans rfl, (blk_cell BK447.out 1).trans rfl, (blk_cell BK447.out 2).trans rfl, (blk_cell BK453.out 0).trans rfl, (blk_cell BK453.out 1).trans rfl⟩ (fun hHeld => ?_)
             clear hK K; refine norm_ (a' := ?_) ?_ ?_
             rotate_left
             ·show Act.put _ (some 55) _ = _
              simp only [Act.put, List.setIfInBounds_toArray, List.set_cons_zero, List.set_cons_succ, i64_w, i32_w]
              rfl
             refine pure_ (i := 9) (N := some 58) (v := ?_) (a' := ?_) #[true, true, true, true, true, true, true, true, true, true, false, false] rfl rfl (any_of HT_.out (by kernel_rfl)) (fun _ _ _ h => h) (Or.inl ⟨by rfl, ?_⟩) ?_ ?_
             rotate_left
             ·intro w'; go_simp
              with_reducible rfl
             rotate_left
             ·simp only [Act.put, List.setIfInBounds_toArray, List.set_cons_zero, List.set_cons_succ, i64_w, i32_w]
              rfl
             refine pure_ (i := 10) (N := some 59) (v := ?_) (a' := ?_) #[true, true, true, true, true, true, true, true, true, true, true, false] rfl rfl (any_of HT_.out (by kernel_rfl)) (fun _ _ _ h => h) (Or.inl ⟨by rfl, ?_⟩) ?_ ?_
             rotate_left
             ·intro w'; go_simp
              with_reducible rfl
             rotate_left
             ·simp only [Act.put, List.setIfInBounds_toArray, List.set_cons_zero, List.set_cons_succ, i64_w, i32_w]
              rfl
             refine one_ (i := 11) (N := some 60) #[true, true, true, true, true, true, true, true, true, true, true, true] rfl rfl (one_of HT_.out (by kernel_rfl)) (by decide) (fun K hK => ?_)
             refine goes_ Try.func48 (by kernel_rfl) rfl #[.int .i64 (Int.tmod (wrap64 (a1 - a0_0)) t451), .int .i64 t454, .int .i64 (wrap64 ((wrap64 (t455 + ((rd_T42 l0_2 x44_2).f1))) - 1))] (by rfl) rfl rfl arr_ ?_
             with_reducible refine (impl_in.calls (Int.tmod (wrap64 (a1 - a0_0)) t451) t454 (wrap64 ((wrap64 (t455 + ((rd_T42 l0_2 x44_2).f1))) - 1)) true _ A30.out).mono ?_
             rintro e w' ⟨rfl, ⟨nd, rfl⟩⟩; refine ⟨_, rfl, ?_⟩
             refine hK.out _ _ ⟨(blk_cell BK447.out 0).trans rfl, (blk_cell BK447.out 1).trans rfl, (blk_cell BK447.out 2).trans rfl, (blk_cell BK453.out 0).trans rfl, (blk_cell BK453.out 1).trans rfl⟩ (fun hHeld => ?_)
             clear hK K; refine norm_ (a' := ?_) ?_ ?_
             rotate_left
             ·show Act.put _ (some 60) _ = _
              simp only [Act.put, List.setIfInBounds_toArray, List.set_cons_zero, List.set_cons_succ, i64_w, i32_w]
              rfl
             refine done_ (done_of HT_.out (by kernel_rfl)) ?_
             have hcz41_0 := bc_ BK447.out 0 (.int .i64 a0_0) rfl; have hcz41_1 := bc_ BK447.out 1 (.int .i64 a0_1) rfl; have hcz41_2 : w40.cell? ⟨gb447, 2, none⟩ = some (.slice (some ad452) l0_2.length c0_2) := (blk_cell BK447.out 2).trans rfl; have hfz41_0 := blk_frozen BK447.out 0; have hfz41_1 := blk_frozen BK447.out 1; have hfz41_2 := blk_frozen BK447.out 2
             try go_wp2_with (first | ((with_reducible refine gate_callee (f := 12) rfl ?_); refine gl_ Try.func12 #[.agg #[.int .i64 a0_0, .int .i64 a0_1, .slice (some ad452) l0_2.length c0_2], .int .i64 x44_2, .int .i64 (wrap64 (Int.tdiv (wrap64 (a1 - a0_0)) t450))] ?_; (with_reducible refine (impl_Occurrence.calls k2 a0_0 a0_1 _ _ l0_2 x44_2 (wrap64 (Int.tdiv (wrap64 (a1 - a0_0)) t450)) t457 t458 true _ ?side1 ?side2 A32.out).mono ?_); (case side1 => repeat (first | exact (Kd.C_below HR0_2.out (hb2_ HB.out GE447.out GE453.out)) | (with_reducible refine Kd.C_alloc ?_ _) | (with_reducible refine Kd.C_drewN ?_ _) | (with_reducible refine Kd.C_drew ?_))); (case side2 => exact HC0_2.out); rintro e w42 ⟨rfl, hb⟩; refine ⟨_, rfl, ?_⟩; replace BK447 := am_ (bb_ BK447.out hb); replace BK453 := am_ (bb_ BK453.out hb); replace HB := am_ (below_step (hb2_ HB.out GE447.out GE453.out) hb); (try clear hb); (try clear hb2); (try clear hk); (try clear hi)) | ((with_reducible refine gate_dst (N := 11) rfl ?_); refine be_ (N := 11) (cs := #[.int .i64 0, .int .i64 0]) (t := 25) ?_; intro gb460 hg w43 hbox hb; have BK460 := am_ (hbox); have GW460 := am_ (hy_ hg (hb2_ HB.out GE447.out GE453.out) : w.heap.size ≤ gb460); have GE460 := GW460; have NB447_460 := am_ (bl_ hg BK447.out : gb447 ≠ gb460); have NB460_447 := nb_ NB447_460; have NB453_460 := am_ (bl_ hg BK453.out : gb453 ≠ gb460); have NB460_453 := nb_ NB453_460; replace BK447 := am_ (bb_ BK447.out hb); replace BK453 := am_ (bb_ BK453.out hb); replace HB := am_ (below_step (hb2_ HB.out GE447.out GE453.out) hb); clear hb hbox hg; have hnb44 := NB460_447.out; have hnc44 := NB447_460.out; have hnb45 := NB460_453.out; have hnc45 := NB453_460.out; obtain ⟨hcz46_0, hcz46_1, hfz46_0, hfz46_1⟩ := bc2_ BK460.out))
             go_ret3
             exact ⟨er_, hb3_ HB.out GE447.out GE453.out GE460.out⟩
            ·replace c33 := Bool.eq_false_iff.mpr c33; subst c33; replace H := i0_ H; simp only [Option.some.injEq, Prod.mk.injEq] at H
             obtain ⟨rfl, rfl, rfl⟩ := H; have p452 : 0 ≤ (x44_2 : Int) := of_decide_eq_true (by first | (with_reducible assumption) | assumption); have q452 : x44_2 < (l0_2.length : Int) := of_decide_eq_true (by first | (with_reducible assumption) | assumption); obtain ⟨ad452, e452, hx452_0, hx452_1⟩ := at_T42 HR0_2.out x44_2 p452 q452
             cases e452
             replace hx452_0 := (HB.out.cell (World.block_lt_of_cell? w _ hx452_0)).trans hx452_0; replace hx452_1 := (HB.out.cell (World.block_lt_of_cell? w _ hx452_1)).trans hx452_1; replace p452 := eq_true p452; replace q452 := eq_true q452; try go_wp2_with (first | ((with_reducible refine gate_dst (N := 10) rfl ?_); refine be_ (N := 10) (cs := #[.int .i64 0, .int .i64 0]) (t := 42) ?_; intro gb453 hg w47 hbox hb; have BK453 := am_ (hbox); have GW453 := am_ (hy_ hg (hb1_ HB.out GE447.out) : w.heap.size ≤ gb453); have GE453 := GW453; have NB447_453 := am_ (bl_ hg BK447.out : gb447 ≠ gb453); have NB453_447 := nb_ NB447_453; replace BK447 := am_ (bb_ BK447.out hb); replace HB := am_ (below_step (hb1_ HB.out GE447.out) hb); clear hb hbox hg; have hnb48 := NB453_447.out; have hnc48 := NB447_453.out; obtain ⟨hcz49_0, hcz49_1, hfz49_0, hfz49_1⟩ := bc2_ BK453.out))
             have n0_ : Aside0 (((w47.setCell ⟨gb453, 0, none⟩ (.int .i64 ((rd_T42 l0_2 x44_2).f0))).setCell ⟨gb453, 1, none⟩ (.int .i64 ((rd_T42 l0_2 x44_2).f1))).heap[gb447]? = some (.cells #[.int .i64 a0_0, .int .i64 a0_1, .slice (some ad452) l0_2.length c0_2] 30 (0, 0))) := ⟨by (with_reducible repeat (first | refine blk_drewN ?_ _ | refine blk_drew ?_ | refine blk_alloc ?_ _)); refine blk_far ?_ NB447_453.out _; (with_reducible repeat (first | refine blk_drewN ?_ _ | refine blk_drew ?_ | refine blk_alloc ?_ _)); refine blk_far ?_ NB447_453.out _; (with_reducible repeat (first | refine blk_drewN ?_ _ | refine blk_drew ?_ | refine blk_alloc ?_ _)); exact BK447.out⟩; have n1_ : Aside0 (((w47.setCell ⟨gb453, 0, none⟩ (.int .i64 ((rd_T42 l0_2 x44_2).f0))).setCell ⟨gb453, 1, none⟩ (.int .i64 ((rd_T42 l0_2 x44_2).f1))).heap[gb453]? = some (.cells #[.int .i64 ((rd_T42 l0_2 x44_2).f0), .int .i64 ((rd_T42 l0_2 x44_2).f1)] 42 (0, 0))) := ⟨by (with_reducible repeat (first | refine blk_drewN ?_ _ | refine blk_drew ?_ | refine blk_alloc ?_ _)); refine blk_put (cs := #[.int .i64 ((rd_T42 l0_2 x44_2).f0), .int .i64 0]) ?_ 1 _ rfl; (with_reducible repeat (first | refine blk_drewN ?_ _ | refine blk_drew ?_ | refine blk_alloc ?_ _)); refine blk_put (cs := #[.int .i64 0, .int .i64 0]) ?_ 0 _ rfl; (with_reducible repeat (first | refine blk_drewN ?_ _ | refine blk_drew ?_ | refine blk_alloc ?_ _)); exact BK453.out⟩
             have n2_ : Aside0 (Below w.heap.size w ((w47.setCell ⟨gb453, 0, none⟩ (.int .i64 ((rd_T42 l0_2 x44_2).f0))).setCell ⟨gb453, 1, none⟩ (.int .i64 ((rd_T42 l0_2 x44_2).f1)))) := ⟨hb2_ HB.out GE447.out GE453.out⟩; (try clear BK447); (try clear BK453); (try clear HB); generalize ((w47.setCell ⟨gb453, 0, none⟩ (.int .i64 ((rd_T42 l0_2 x44_2).f0))).setCell ⟨gb453, 1, none⟩ (.int .i64 ((rd_T42 l0_2 x44_2).f1))) = w50 at n0_ n1_ n2_ ⊢
             have BK447 := n0_; have BK453 := n1_; have HB := n2_; clear n0_ n1_ n2_; have n0_ := am_ (blk_drew BK447.out); have n1_ := am_ (blk_drew BK453.out); have n2_ := am_ (below_drew1 HB.out); clear BK447; clear BK453; clear HB; have BK447 := n0_; have BK453 := n1_; have HB := n2_; clear n0_ n1_ n2_; refine start_ (n := 12) (S := fun w' => w'.cell? ⟨gb447, 0, none⟩ = some (.int .i64 a0_0) ∧ w'.cell? ⟨gb447, 1, none⟩ = some (.int .i64 a0_1) ∧ w'.cell? ⟨gb447, 2, none⟩ = some (.slice (some ad452) l0_2.length c0_2) ∧ w'.cell? ⟨gb453, 0, none⟩ = some (.int .i64 ((rd_T42 l0_2 x44_2).f0)) ∧ w'.cell? ⟨gb453, 1, none⟩ = some (.int .i64 ((rd_T42 l0_2 x44_2).f1))) (ds := []) #[false, false, false, false, false, false, false, false, false, false, false, false] (by kernel_rfl) rfl rfl ⟨(blk_cell BK447.out 0).trans rfl, (blk_cell BK447.out 1).trans rfl, (blk_cell BK447.out 2).trans rfl, (blk_cell BK453.out 0).trans rfl, (blk_cell BK453.out 1).trans rfl⟩ (fun hHeld => ?_); refine with_tabW impl_SlotAt.tab7 impl_SlotAt.bits7 (fun HT_ HW_ => ?_)
             generalize w50.drew = w51 at BK447 BK453 HB hHeld ⊢
             refine pure_ (i := 0) (N := some 49) (v := ?_) (a' := ?_) #[true, false, false, false, false, false, false, false, false, false, false, false] rfl rfl (any_of HT_.out (by kernel_rfl)) (fun _ _ _ h => h) (Or.inl ⟨by rfl, ?_⟩) ?_ ?_
             rotate_left
             ·intro w'; go_simp
              with_reducible rfl
             rotate_left
             ·simp only [Act.put, List.setIfInBounds_toArray, List.set_cons_zero, List.set_cons_succ, i64_w, i32_w]
              rfl
             refine pure_ (i := 2) (N := some 51) (v := ?_) (a' := ?_) #[true, false, true, false, false, false, false, false, false, false, false, false] rfl rfl (any_of HT_.out (by kernel_rfl)) (fun _ _ _ h => h) (Or.inl ⟨by rfl, ?_⟩) ?_ ?_
             rotate_left
             ·intro w'; go_simp
              with_reducible rfl
             rotate_left
             ·simp only [Act.put, List.setIfInBounds_toArray, List.set_cons_zero, List.set_cons_succ, i64_w, i32_w]
              rfl
             refine pure_ (i := 5) (N := some 54) (v := ?_) (a' := ?_) #[true, false, true, false, false, true, false, false, false, false, false, false] rfl rfl (any_of HT_.out (by kernel_rfl)) (fun _ _ _ h => h) (Or.inl ⟨by rfl, ?_⟩) ?_ ?_
             rotate_left
             ·intro w'; go_simp
              with_reducible rfl
             rotate_left
             ·simp only [Act.put, List.setIfInBounds_toArray, List.set_cons_zero, List.set_cons_succ, i64_w, i32_w]
              rfl
             refine pure_ (i := 7) (N := some 56) (v := ?_) (a' := ?_) #[true, false, true, false, false, true, false, true, false, false, false, false] rfl rfl (any_of HT_.out (by kernel_rfl)) (fun _ _ _ h => h) (Or.inl ⟨by rfl, ?_⟩) ?_ ?_
             rotate_left
             ·intro w'; go_simp
              with_reducible rfl
             rotate_left
             ·simp only [Act.put, List.setIfInBounds_toArray, List.set_cons_zero, List.set_cons_succ, i64_w, i32_w]
              rfl
             refine take_ (i := 1) (N := some 50) (v := ?_) (a' := ?_) #[true, true, true, false, false, true, false, true, false, false, false, false] rfl rfl (take_ofW HT_.out HW_.out (by kernel_rfl)) (fun _ _ _ h => h) (Or.inl ⟨by rfl, ?_⟩) hHeld ?_ ?_
             rotate_left
             ·rintro w' ⟨s0, s1, s2, s3, s4⟩; go_simp
              with_reducible rfl
             rotate_left
             ·simp only [Act.put, List.setIfInBounds_toArray, List.set_cons_zero, List.set_cons_succ, i64_w, i32_w]
              rfl
             refine take_ (i := 4) (N := some 53) (v := ?_) (a' := ?_) #[true, true, true, false, true, true, false, true, false, false, false, false] rfl rfl (take_ofW HT_.out HW_.out (by kernel_rfl)) (fun _ _ _ h => h) (Or.inl ⟨by rfl, ?_⟩) hHeld ?_ ?_
             rotate_left
             ·rintro w' ⟨s0, s1, s2, s3, s4⟩; go_simp
              with_reducible rfl
             rotate_left
             ·simp only [Act.put, List.setIfInBounds_toArray, List.set_cons_zero, List.set_cons_succ, i64_w, i32_w]
              rfl
             refine take_ (i := 8) (N := some 57) (v := ?_) (a' := ?_) #[true, true, true, false, true, true, false, true, true, false, false, false] rfl rfl (take_ofW HT_.out HW_.out (by kernel_rfl)) (fun _ _ _ h => h) (Or.inl ⟨by rfl, ?_⟩) hHeld ?_ ?_
             rotate_left
             ·rintro w' ⟨s0, s1, s2, s3, s4⟩; go_simp
              with_reducible rfl
             rotate_left
             ·simp only [Act.put, List.setIfInBounds_toArray, List.set_cons_zero, List.set_cons_succ, i64_w, i32_w]
              rfl
             refine one_ (i := 3) (N := some 52) #[true, true, true, true, true, true, false, true, true, false, false, false] rfl rfl (one_of HT_.out (by kernel_rfl)) (by decide) (fun K hK => ?_)
             refine goes_ Try.func60 (by kernel_rfl) rfl #[.agg #[.int .i64 a0_0, .int .i64 a0_1, .slice (some ad452) l0_2.length c0_2], .int .i64 x44_2] (by rfl) rfl rfl arr_ ?_
             with_reducible refine (impl_Plan_from.calls k2 a0_0 a0_1 _ _ l0_2 x44_2 t454 _ ?side1 ?side2 A28.out).mono ?_
             (case side1 => exact kc_ (Kd.C_below HR0_2.out HB.out))
             (case side2 => exact HC0_2.out)
             rintro e w52 ⟨rfl, hb⟩; refine ⟨_, rfl, ?_⟩
             have n0_ := am_ (bb_ BK447.out hb); have n1_ := am_ (bb_ BK453.out hb); have n2_ := am_ (below_step (hb2_ HB.out GE447.out GE453.out) hb); clear BK447; clear BK453; clear HB; have BK447 := n0_; have BK453 := n1_; have HB := n2_; clear n0_ n1_ n2_; (try clear hb); (try clear hb2); (try clear hk); (try clear hi); refine hK.out _ _ ⟨(blk_cell BK447.out 0).trans rfl, (blk_cell BK447.out 1).trans rfl, (blk_cell BK447.out 2).trans rfl, (blk_cell BK453.out 0).trans rfl, (blk_cell BK453.out 1).trans rfl⟩ (fun hHeld => ?_)
             clear hK K; refine norm_ (a' := ?_) ?_ ?_
             rotate_left
             ·show Act.put _ (some 52) _ = _
              simp only [Act.put, List.setIfInBounds_toArray, List.set_cons_zero, List.set_cons_succ, i64_w, i32_w]
              rfl
             refine one_ (i := 6) (N := some 55) #[true, true, true, true, true, true, true, true, true, false, false, false] rfl rfl (one_of HT_.out (by kernel_rfl)) (by decide) (fun K hK => ?_)
             refine goes_ Try.func60 (by kernel_rfl) rfl #[.agg #[.int .i64 a0_0, .int .i64 a0_1, .slice (some ad452) l0_2.length c0_2], .int .i64 x44_2] (by rfl) rfl rfl arr_ ?_
             with_reducible refine (impl_Plan_from.calls k2 a0_0 a0_1 _ _ l0_2 x44_2 t455 _ ?side1 ?side2 A29.out).mono ?_
             (case side1 => exact kc_ (Kd.C_below HR0_2.out HB.out))
             (case side2 => exact HC0_2.out)
             rintro e w53 ⟨rfl, hb⟩; refine ⟨_, rfl, ?_⟩
             have n0_ := am_ (bb_ BK447.out hb); have n1_ := am_ (bb_ BK453.out hb); have n2_ := am_ (below_step (hb2_ HB.out GE447.out GE453.out) hb); clear BK447; clear BK453; clear HB; have BK447 := n0_; have BK453 := n1_; have HB := n2_; clear n0_ n1_ n2_; (try clear hb); (try clear hb2); (try clear hk); (try clear hi); refine hK.out _ _ ⟨(blk_cell BK447.out 0).trans rfl, (blk_cell BK447.out 1).trans rfl, (blk_cell BK447.out 2).trans rfl, (blk_cell BK453.out 0).trans rfl, (blk_cell BK453.out 1).trans rfl⟩ (fun hHeld => ?_)
             clear hK K; refine norm_ (a' := ?_) ?_ ?_
             rotate_left
             ·show Act.put _ (some 55) _ = _
              simp only [Act.put, List.setIfInBounds_toArray, List.set_cons_zero, List.set_cons_succ, i64_w, i32_w]
              rfl
             refine pure_ (i := 9) (N := some 58) (v := ?_) (a' := ?_) #[true, true, true, true, true, true, true, true, true, true, false, false] rfl rfl (any_of HT_.out (by kernel_rfl)) (fun _ _ _ h => h) (Or.inl ⟨by rfl, ?_⟩) ?_ ?_
             rotate_left
             ·intro w'; go_simp
              with_reducible rfl
             rotate_left
             ·simp only [Act.put, List.setIfInBounds_toArray, List.set_cons_zero, List.set_cons_succ, i64_w, i32_w]
              rfl
             refine pure_ (i := 10) (N := some 59) (v := ?_) (a' := ?_) #[true, true, true, true, true, true, true, true, true, true, true, false] rfl rfl (any_of HT_.out (by kernel_rfl)) (fun _ _ _ h => h) (Or.inl ⟨by rfl, ?_⟩) ?_ ?_
             rotate_left
             ·intro w'; go_simp
              with_reducible rfl
             rotate_left
             ·simp only [Act.put, List.setIfInBounds_toArray, List.set_cons_zero, List.set_cons_succ, i64_w, i32_w]
              rfl
             refine one_ (i := 11) (N := some 60) #[true, true, true, true, true, true, true, true, true, true, true, true] rfl rfl (one_of HT_.out (by kernel_rfl)) (by decide) (fun K hK => ?_)
             refine goes_ Try.func48 (by kernel_rfl) rfl #[.int .i64 (Int.tmod (wrap64 (a1 - a0_0)) t451), .int .i64 t454, .int .i64 (wrap64 ((wrap64 (t455 + ((rd_T42 l0_2 x44_2).f1))) - 1))] (by rfl) rfl rfl arr_ ?_
             with_reducible refine (impl_in.calls (Int.tmod (wrap64 (a1 - a0_0)) t451) t454 (wrap64 ((wrap64 (t455 + ((rd_T42 l0_2 x44_2).f1))) - 1)) true _ A30.out).mono ?_
             rintro e w' ⟨rfl, ⟨nd, rfl⟩⟩; refine ⟨_, rfl, ?_⟩
             refine hK.out _ _ ⟨(blk_cell BK447.out 0).trans rfl, (blk_cell BK447.out 1).trans rfl, (blk_cell BK447.out 2).trans rfl, (blk_cell BK453.out 0).trans rfl, (blk_cell BK453.out 1).trans rfl⟩ (fun hHeld => ?_)
             clear hK K; refine norm_ (a' := ?_) ?_ ?_
             rotate_left
             ·show Act.put _ (some 60) _ = _
              simp only [Act.put, List.setIfInBounds_toArray, List.set_cons_zero, List.set_cons_succ, i64_w, i32_w]
              rfl
             refine done_ (done_of HT_.out (by kernel_rfl)) ?_
             have hcz54_0 := bc_ BK447.out 0 (.int .i64 a0_0) rfl; have hcz54_1 := bc_ BK447.out 1 (.int .i64 a0_1) rfl; have hcz54_2 : w53.cell? ⟨gb447, 2, none⟩ = some (.slice (some ad452) l0_2.length c0_2) := (blk_cell BK447.out 2).trans rfl; have hfz54_0 := blk_frozen BK447.out 0; have hfz54_1 := blk_frozen BK447.out 1; have hfz54_2 := blk_frozen BK447.out 2
             try go_wp2_with (first | ((with_reducible refine gate_callee (f := 12) rfl ?_); refine gl_ Try.func12 #[.agg #[.int .i64 a0_0, .int .i64 a0_1, .slice (some ad452) l0_2.length c0_2], .int .i64 x44_2, .int .i64 (wrap64 (Int.tdiv (wrap64 (a1 - a0_0)) t450))] ?_; (with_reducible refine (impl_Occurrence.calls k2 a0_0 a0_1 _ _ l0_2 x44_2 (wrap64 (Int.tdiv (wrap64 (a1 - a0_0)) t450)) t457 t458 false _ ?side1 ?side2 A32.out).mono ?_); (case side1 => repeat (first | exact (Kd.C_below HR0_2.out (hb2_ HB.out GE447.out GE453.out)) | (with_reducible refine Kd.C_alloc ?_ _) | (with_reducible refine Kd.C_drewN ?_ _) | (with_reducible refine Kd.C_drew ?_))); (case side2 => exact HC0_2.out); rintro e w55 ⟨rfl, hb⟩; refine ⟨_, rfl, ?_⟩; replace BK447 := am_ (bb_ BK447.out hb); replace BK453 := am_ (bb_ BK453.out hb); replace HB := am_ (below_step (hb2_ HB.out GE447.out GE453.out) hb); (try clear hb); (try clear hb2); (try clear hk); (try clear hi)) | ((with_reducible refine gate_dst (N := 11) rfl ?_); refine be_ (N := 11) (cs := #[.int .i64 0, .int .i64 0]) (t := 25) ?_; intro gb460 hg w56 hbox hb; have BK460 := am_ (hbox); have GW460 := am_ (hy_ hg (hb2_ HB.out GE447.out GE453.out) : w.heap.size ≤ gb460); have GE460 := GW460; have NB447_460 := am_ (bl_ hg BK447.out : gb447 ≠ gb460); have NB460_447 := nb_ NB447_460; have NB453_460 := am_ (bl_ hg BK453.out : gb453 ≠ gb460); have NB460_453 := nb_ NB453_460; replace BK447 := am_ (bb_ BK447.out hb); replace BK453 := am_ (bb_ BK453.out hb); replace HB := am_ (below_step (hb2_ HB.out GE447.out GE453.out) hb); clear hb hbox hg; have hnb57 := NB460_447.out; have hnc57 := NB447_460.out; have hnb58 := NB460_453.out; have hnc58 := NB453_460.out; obtain ⟨hcz59_0, hcz59_1, hfz59_0, hfz59_1⟩ := bc2_ BK460.out))
             go_ret3
             exact ⟨er_, hb3_ HB.out GE447.out GE453.out GE460.out⟩
           ·replace c31 := Bool.eq_false_iff.mpr c31; subst c31; replace H := i0_ H; have H' := Aside0.mk H; clear H; have p452 : 0 ≤ (x44_2 : Int) := of_decide_eq_true (by first | (with_reducible assumption) | assumption); have q452 : x44_2 < (l0_2.length : Int) := of_decide_eq_true (by first | (with_reducible assumption) | assumption); obtain ⟨ad452, e452, hx452_0, hx452_1⟩ := at_T42 HR0_2.out x44_2 p452 q452
            cases e452
            replace hx452_0 := (HB.out.cell (World.block_lt_of_cell? w _ hx452_0)).trans hx452_0; replace hx452_1 := (HB.out.cell (World.block_lt_of_cell? w _ hx452_1)).trans hx452_1; replace p452 := eq_true p452; replace q452 := eq_true q452; try go_wp2_with (first | ((with_reducible refine gate_dst (N := 10) rfl ?_); refine be_ (N := 10) (cs := #[.int .i64 0, .int .i64 0]) (t := 42) ?_; intro gb453 hg w60 hbox hb; have BK453 := am_ (hbox); have GW453 := am_ (hy_ hg (hb1_ HB.out GE447.out) : w.heap.size ≤ gb453); have GE453 := GW453; have NB447_453 := am_ (bl_ hg BK447.out : gb447 ≠ gb453); have NB453_447 := nb_ NB447_453; replace BK447 := am_ (bb_ BK447.out hb); replace HB := am_ (below_step (hb1_ HB.out GE447.out) hb); clear hb hbox hg; have hnb61 := NB453_447.out; have hnc61 := NB447_453.out; obtain ⟨hcz62_0, hcz62_1, hfz62_0, hfz62_1⟩ := bc2_ BK453.out))
            have n0_ : Aside0 (((w60.setCell ⟨gb453, 0, none⟩ (.int .i64 ((rd_T42 l0_2 x44_2).f0))).setCell ⟨gb453, 1, none⟩ (.int .i64 ((rd_T42 l0_2 x44_2).f1))).heap[gb447]? = some (.cells #[.int .i64 a0_0, .int .i64 a0_1, .slice (some ad452) l0_2.length c0_2] 30 (0, 0))) := ⟨by (with_reducible repeat (first | refine blk_drewN ?_ _ | refine blk_drew ?_ | refine blk_alloc ?_ _)); refine blk_far ?_ NB447_453.out _; (with_reducible repeat (first | refine blk_drewN ?_ _ | refine blk_drew ?_ | refine blk_alloc ?_ _)); refine blk_far ?_ NB447_453.out _; (with_reducible repeat (first | refine blk_drewN ?_ _ | refine blk_drew ?_ | refine blk_alloc ?_ _)); exact BK447.out⟩; have n1_ : Aside0 (((w60.setCell ⟨gb453, 0, none⟩ (.int .i64 ((rd_T42 l0_2 x44_2).f0))).setCell ⟨gb453, 1, none⟩ (.int .i64 ((rd_T42 l0_2 x44_2).f1))).heap[gb453]? = some (.cells #[.int .i64 ((rd_T42 l0_2 x44_2).f0), .int .i64 ((rd_T42 l0_2 x44_2).f1)] 42 (0, 0))) := ⟨by (with_reducible repeat (first | refine blk_drewN ?_ _ | refine blk_drew ?_ | refine blk_alloc ?_ _)); refine blk_put (cs := #[.int .i64 ((rd_T42 l0_2 x44_2).f0), .int .i64 0]) ?_ 1 _ rfl; (with_reducible repeat (first | refine blk_drewN ?_ _ | refine blk_drew ?_ | refine blk_alloc ?_ _)); refine blk_put (cs := #[.int .i64 0, .int .i64 0]) ?_ 0 _ rfl; (with_reducible repeat (first | refine blk_drewN ?_ _ | refine blk_drew ?_ | refine blk_alloc ?_ _)); exact BK453.out⟩
            have n2_ : Aside0 (Below w.heap.size w ((w60.setCell ⟨gb453, 0, none⟩ (.int .i64 ((rd_T42 l0_2 x44_2).f0))).setCell ⟨gb453, 1, none⟩ (.int .i64 ((rd_T42 l0_2 x44_2).f1)))) := ⟨hb2_ HB.out GE447.out GE453.out⟩; (try clear BK447); (try clear BK453); (try clear HB); generalize ((w60.setCell ⟨gb453, 0, none⟩ (.int .i64 ((rd_T42 l0_2 x44_2).f0))).setCell ⟨gb453, 1, none⟩ (.int .i64 ((rd_T42 l0_2 x44_2).f1))) = w63 at n0_ n1_ n2_ ⊢
            have BK447 := n0_; have BK453 := n1_; have HB := n2_; clear n0_ n1_ n2_; have n0_ := am_ (blk_drew BK447.out); have n1_ := am_ (blk_drew BK453.out); have n2_ := am_ (below_drew1 HB.out); clear BK447; clear BK453; clear HB; have BK447 := n0_; have BK453 := n1_; have HB := n2_; clear n0_ n1_ n2_; refine start_ (n := 12) (S := fun w' => w'.cell? ⟨gb447, 0, none⟩ = some (.int .i64 a0_0) ∧ w'.cell? ⟨gb447, 1, none⟩ = some (.int .i64 a0_1) ∧ w'.cell? ⟨gb447, 2, none⟩ = some (.slice (some ad452) l0_2.length c0_2) ∧ w'.cell? ⟨gb453, 0, none⟩ = some (.int .i64 ((rd_T42 l0_2 x44_2).f0)) ∧ w'.cell? ⟨gb453, 1, none⟩ = some (.int .i64 ((rd_T42 l0_2 x44_2).f1))) (ds := []) #[false, false, false, false, false, false, false, false, false, false, false, false] (by kernel_rfl) rfl rfl ⟨(blk_cell BK447.out 0).trans rfl, (blk_cell BK447.out 1).trans rfl, (blk_cell BK447.out 2).trans rfl, (blk_cell BK453.out 0).trans rfl, (blk_cell BK453.out 1).trans rfl⟩ (fun hHeld => ?_); refine with_tabW impl_SlotAt.tab7 impl_SlotAt.bits7 (fun HT_ HW_ => ?_)
            generalize w63.drew = w64 at BK447 BK453 HB hHeld ⊢
            refine pure_ (i := 0) (N := some 49) (v := ?_) (a' := ?_) #[true, false, false, false, false, false, false, false, false, false, false, false] rfl rfl (any_of HT_.out (by kernel_rfl)) (fun _ _ _ h => h) (Or.inl ⟨by rfl, ?_⟩) ?_ ?_
            rotate_left
            ·intro w'; go_simp
             with_reducible rfl
            rotate_left
            ·simp only [Act.put, List.setIfInBounds_toArray, List.set_cons_zero, List.set_cons_succ, i64_w, i32_w]
             rfl
            refine pure_ (i := 2) (N := some 51) (v := ?_) (a' := ?_) #[true, false, true, false, false, false, false, false, false, false, false, false] rfl rfl (any_of HT_.out (by kernel_rfl)) (fun _ _ _ h => h) (Or.inl ⟨by rfl, ?_⟩) ?_ ?_
            rotate_left
            ·intro w'; go_simp
             with_reducible rfl
            rotate_left
            ·simp only [Act.put, List.setIfInBounds_toArray, List.set_cons_zero, List.set_cons_succ, i64_w, i32_w]
             rfl
            refine pure_ (i := 5) (N := some 54) (v := ?_) (a' := ?_) #[true, false, true, false, false, true, false, false, false, false, false, false] rfl rfl (any_of HT_.out (by kernel_rfl)) (fun _ _ _ h => h) (Or.inl ⟨by rfl, ?_⟩) ?_ ?_
            rotate_left
            ·intro w'; go_simp
             with_reducible rfl
            rotate_left
            ·simp only [Act.put, List.setIfInBounds_toArray, List.set_cons_zero, List.set_cons_succ, i64_w, i32_w]
             rfl
            refine pure_ (i := 7) (N := some 56) (v := ?_) (a' := ?_) #[true, false, true, false, false, true, false, true, false, false, false, false] rfl rfl (any_of HT_.out (by kernel_rfl)) (fun _ _ _ h => h) (Or.inl ⟨by rfl, ?_⟩) ?_ ?_
            rotate_left
            ·intro w'; go_simp
             with_reducible rfl
            rotate_left
            ·simp only [Act.put, List.setIfInBounds_toArray, List.set_cons_zero, List.set_cons_succ, i64_w, i32_w]
             rfl
            refine take_ (i := 1) (N := some 50) (v := ?_) (a' := ?_) #[true, true, true, false, false, true, false, true, false, false, false, false] rfl rfl (take_ofW HT_.out HW_.out (by kernel_rfl)) (fun _ _ _ h => h) (Or.inl ⟨by rfl, ?_⟩) hHeld ?_ ?_
            rotate_left
            ·rintro w' ⟨s0, s1, s2, s3, s4⟩; go_simp
             with_reducible rfl
            rotate_left
            ·simp only [Act.put, List.setIfInBounds_toArray, List.set_cons_zero, List.set_cons_succ, i64_w, i32_w]
             rfl
            refine take_ (i := 4) (N := some 53) (v := ?_) (a' := ?_) #[true, true, true, false, true, true, false, true, false, false, false, false] rfl rfl (take_ofW HT_.out HW_.out (by kernel_rfl)) (fun _ _ _ h => h) (Or.inl ⟨by rfl, ?_⟩) hHeld ?_ ?_
            rotate_left
            ·rintro w' ⟨s0, s1, s2, s3, s4⟩; go_simp
             with_reducible rfl
            rotate_left
            ·simp only [Act.put, List.setIfInBounds_toArray, List.set_cons_zero, List.set_cons_succ, i64_w, i32_w]
             rfl
            refine take_ (i := 8) (N := some 57) (v := ?_) (a' := ?_) #[true, true, true, false, true, true, false, true, true, false, false, false] rfl rfl (take_ofW HT_.out HW_.out (by kernel_rfl)) (fun _ _ _ h => h) (Or.inl ⟨by rfl, ?_⟩) hHeld ?_ ?_
            rotate_left
            ·rintro w' ⟨s0, s1, s2, s3, s4⟩; go_simp
             with_reducible rfl
            rotate_left
            ·simp only [Act.put, List.setIfInBounds_toArray, List.set_cons_zero, List.set_cons_succ, i64_w, i32_w]
             rfl
            refine one_ (i := 3) (N := some 52) #[true, true, true, true, true, true, false, true, true, false, false, false] rfl rfl (one_of HT_.out (by kernel_rfl)) (by decide) (fun K hK => ?_)
            refine goes_ Try.func60 (by kernel_rfl) rfl #[.agg #[.int .i64 a0_0, .int .i64 a0_1, .slice (some ad452) l0_2.length c0_2], .int .i64 x44_2] (by rfl) rfl rfl arr_ ?_
            with_reducible refine (impl_Plan_from.calls k2 a0_0 a0_1 _ _ l0_2 x44_2 t454 _ ?side1 ?side2 A28.out).mono ?_
            (case side1 => exact kc_ (Kd.C_below HR0_2.out HB.out))
            (case side2 => exact HC0_2.out)
            rintro e w65 ⟨rfl, hb⟩; refine ⟨_, rfl, ?_⟩
            have n0_ := am_ (bb_ BK447.out hb); have n1_ := am_ (bb_ BK453.out hb); have n2_ := am_ (below_step (hb2_ HB.out GE447.out GE453.out) hb); clear BK447; clear BK453; clear HB; have BK447 := n0_; have BK453 := n1_; have HB := n2_; clear n0_ n1_ n2_; (try clear hb); (try clear hb2); (try clear hk); (try clear hi); refine hK.out _ _ ⟨(blk_cell BK447.out 0).trans rfl, (blk_cell BK447.out 1).trans rfl, (blk_cell BK447.out 2).trans rfl, (blk_cell BK453.out 0).trans rfl, (blk_cell BK453.out 1).trans rfl⟩ (fun hHeld => ?_)
            clear hK K; refine norm_ (a' := ?_) ?_ ?_
            rotate_left
            ·show Act.put _ (some 52) _ = _
             simp only [Act.put, List.setIfInBounds_toArray, List.set_cons_zero, List.set_cons_succ, i64_w, i32_w]
             rfl
            refine one_ (i := 6) (N := some 55) #[true, true, true, true, true, true, true, true, true, false, false, false] rfl rfl (one_of HT_.out (by kernel_rfl)) (by decide) (fun K hK => ?_)
            refine goes_ Try.func60 (by kernel_rfl) rfl #[.agg #[.int .i64 a0_0, .int .i64 a0_1, .slice (some ad452) l0_2.length c0_2], .int .i64 x44_2] (by rfl) rfl rfl arr_ ?_
            with_reducible refine (impl_Plan_from.calls k2 a0_0 a0_1 _ _ l0_2 x44_2 t455 _ ?side1 ?side2 A29.out).mono ?_
            (case side1 => exact kc_ (Kd.C_below HR0_2.out HB.out))
            (case side2 => exact HC0_2.out)
            rintro e w66 ⟨rfl, hb⟩; refine ⟨_, rfl, ?_⟩
            have n0_ := am_ (bb_ BK447.out hb); have n1_ := am_ (bb_ BK453.out hb); have n2_ := am_ (below_step (hb2_ HB.out GE447.out GE453.out) hb); clear BK447; clear BK453; clear HB; have BK447 := n0_; have BK453 := n1_; have HB := n2_; clear n0_ n1_ n2_; (try clear hb); (try clear hb2); (try clear hk); (try clear hi); refine hK.out _ _ ⟨(blk_cell BK447.out 0).trans rfl, (blk_cell BK447.out 1).trans rfl, (blk_cell BK447.out 2).trans rfl, (blk_cell BK453.out 0).trans rfl, (blk_cell BK453.out 1).trans rfl⟩ (fun hHeld => ?_)
            clear hK K; refine norm_ (a' := ?_) ?_ ?_
            rotate_left
            ·show Act.put _ (some 55) _ = _
             simp only [Act.put, List.setIfInBounds_toArray, List.set_cons_zero, List.set_cons_succ, i64_w, i32_w]
             rfl
            refine pure_ (i := 9) (N := some 58) (v := ?_) (a' := ?_) #[true, true, true, true, true, true, true, true, true, true, false, false] rfl rfl (any_of HT_.out (by kernel_rfl)) (fun _ _ _ h => h) (Or.inl ⟨by rfl, ?_⟩) ?_ ?_
            rotate_left
            ·intro w'; go_simp
             with_reducible rfl
            rotate_left
            ·simp only [Act.put, List.setIfInBounds_toArray, List.set_cons_zero, List.set_cons_succ, i64_w, i32_w]
             rfl
            refine pure_ (i := 10) (N := some 59) (v := ?_) (a' := ?_) #[true, true, true, true, true, true, true, true, true, true, true, false] rfl rfl (any_of HT_.out (by kernel_rfl)) (fun _ _ _ h => h) (Or.inl ⟨by rfl, ?_⟩) ?_ ?_
            rotate_left
            ·intro w'; go_simp
             with_reducible rfl
            rotate_left
            ·simp only [Act.put, List.setIfInBounds_toArray, List.set_cons_zero, List.set_cons_succ, i64_w, i32_w]
             rfl
            refine one_ (i := 11) (N := some 60) #[true, true, true, true, true, true, true, true, true, true, true, true] rfl rfl (one_of HT_.out (by kernel_rfl)) (by decide) (fun K hK => ?_)
            refine goes_ Try.func48 (by kernel_rfl) rfl #[.int .i64 (Int.tmod (wrap64 (a1 - a0_0)) t451), .int .i64 t454, .int .i64 (wrap64 ((wrap64 (t455 + ((rd_T42 l0_2 x44_2).f1))) - 1))] (by rfl) rfl rfl arr_ ?_
            with_reducible refine (impl_in.calls (Int.tmod (wrap64 (a1 - a0_0)) t451) t454 (wrap64 ((wrap64 (t455 + ((rd_T42 l0_2 x44_2).f1))) - 1)) false _ A30.out).mono ?_
            rintro e w' ⟨rfl, ⟨nd, rfl⟩⟩; refine ⟨_, rfl, ?_⟩
            refine hK.out _ _ ⟨(blk_cell BK447.out 0).trans rfl, (blk_cell BK447.out 1).trans rfl, (blk_cell BK447.out 2).trans rfl, (blk_cell BK453.out 0).trans rfl, (blk_cell BK453.out 1).trans rfl⟩ (fun hHeld => ?_)
            clear hK K; refine norm_ (a' := ?_) ?_ ?_
            rotate_left
            ·show Act.put _ (some 60) _ = _
             simp only [Act.put, List.setIfInBounds_toArray, List.set_cons_zero, List.set_cons_succ, i64_w, i32_w]
             rfl
            refine done_ (done_of HT_.out (by kernel_rfl)) ?_
            try go_wp2
            go_roundg k2
            case measure => have := HJ2.out; have := HK2.out; omega
            case rel => exact ⟨(wrap64 (x44_2 + 1)), (by first | rfl | (simp; done) | (simp [*]; done)), H', ⟨by have := HJ2.out; have := HK2.out; omega⟩, ⟨bk_ BK447.out⟩, ⟨hb2_ HB.out GE447.out GE453.out⟩⟩
          ·rw [if_neg c27] at H; exact absurd H (by simp)
         ·rw [if_neg c26] at H; exact absurd H (by simp)
        ·rw [if_neg c25] at H; have c25b0 : decide (x44_2 < (l0_2.length : Int)) = false := decide_eq_false c25; clear c25; simp only [Option.some.injEq, Prod.mk.injEq] at H
         obtain ⟨rfl, rfl, rfl⟩ := H; go_wp2
         go_ret3
         exact ⟨er_, hb1_ HB.out GE447.out⟩
end Go.Proofs.Ytllpmpfchidhoaa.P

namespace Go.Proofs.Ytllpmpfchidhoaa.P
open Go.RowKit Go.Proofs.YtllpmpfchidhoaaW.PrintWords Go.Proofs.YtllpmpfchidhoaaW.PrintLast Go.Proofs.YtllpmpfchidhoaaW.PrintMore
attribute [local go_sem] max2_int min2_int max_two min_two max_three min_three max_four min_four
set_option linter.unusedVariables false
set_option linter.unusedSimpArgs false
def impl_InSlot.j0 : Nat → Int → Int → Int → Bool → Int → Int → List (S42) → Option (Int × Int × Bool)
 | 0, _, _, _, _, _, _, _ => none
 | k + 1, x3, x11, x12, x39, x462000, x462001, x462002 => if x39 = true then (some (0, 0, false)) else ((impl_Occurrence.f k x462000 x462001 x462002 x11 x12).bind fun bt466 => (if x3 > bt466.2.1 then (some (0, 0, false)) else (some (x11, x12, true))))
def impl_InSlot.f (k : Nat) (a0_0 : Int) (a0_1 : Int) (l0_2 : List (S42)) (a1 : Int) (a2 : Int) (a3 : Int) : Option (Int × Int × Bool) := (impl_SlotAt.f k a0_0 a0_1 l0_2 a2).bind fun bt462 => (if bt462.2.2 = true then (if 0 ≤ bt462.1 then (if bt462.1 < (l0_2.length : Int) then (if ((rd_T42 l0_2 bt462.1).f0) = a1 then (impl_InSlot.j0 k a3 bt462.1 bt462.2.1 (decide (a2 > a3)) a0_0 a0_1 l0_2) else (impl_InSlot.j0 k a3 bt462.1 bt462.2.1 true a0_0 a0_1 l0_2)) else (none)) else (none)) else (impl_InSlot.j0 k a3 bt462.1 bt462.2.1 true a0_0 a0_1 l0_2))
set_option maxHeartbeats 8000000 in
set_option maxRecDepth 100000 in
theorem impl_InSlot.calls (k : Nat) (a0_0 : Int) (a0_1 : Int) (A0_2 : Option Addr) (c0_2 : Nat) (l0_2 : List (S42)) (a1 : Int) (a2 : Int) (a3 : Int) (r1 : Int) (r2 : Int) (r3 : Bool) (w : World) (hr0_2 : Kd.C k42 w A0_2 l0_2.length l0_2) (hc0_2 : l0_2.length ≤ c0_2) (h : impl_InSlot.f k a0_0 a0_1 l0_2 a1 a2 a3 = some (r1, r2, r3)) :
  Calls Try.prog 51 #[.agg #[.int .i64 a0_0, .int .i64 a0_1, .slice A0_2 l0_2.length c0_2], .int .i64 a1, .int .i64 a2, .int .i64 a3] w fun e w' => e = .returned (.tuple #[.int .i64 r1, .int .i64 r2, .bool r3]) ∧ Below w.heap.size w w' := by
 have hu30 := Try.underlying30; have hu25 := Try.underlying25; have HR0_2 := Aside0.mk hr0_2; have HC0_2 := Aside0.mk hc0_2; clear hr0_2 hc0_2; have HB := am_ (Below.refl w.heap.size w); have H : ((impl_SlotAt.f k a0_0 a0_1 l0_2 a2).bind fun bt462 => (if bt462.2.2 = true then (if 0 ≤ bt462.1 then (if bt462.1 < (l0_2.length : Int) then (if ((rd_T42 l0_2 bt462.1).f0) = a1 then (impl_InSlot.j0 k a3 bt462.1 bt462.2.1 (decide (a2 > a3)) a0_0 a0_1 l0_2) else (impl_InSlot.j0 k a3 bt462.1 bt462.2.1 true a0_0 a0_1 l0_2)) else (none)) else (none)) else (impl_InSlot.j0 k a3 bt462.1 bt462.2.1 true a0_0 a0_1 l0_2))) = some (r1, r2, r3) := h; clear h; obtain ⟨⟨t462, t463, t464⟩, A5, H⟩ := ab_ H; (try dsimp only at H); have HC6 := Aside0.mk H; clear H; go_enter Try.func51, Try.ntmps51
 go_upto_region 2 with (first | ((with_reducible refine gate_dst (N := 4) rfl ?_); refine be_ (N := 4) (cs := #[.int .i64 a0_0, .int .i64 a0_1, .slice A0_2 l0_2.length c0_2]) (t := 30) ?_; intro gb461 hg w7 hbox hb; have BK461 := am_ (hbox); have GW461 := am_ (hy_ hg (hb_ HB.out) : w.heap.size ≤ gb461); have GE461 := GW461; replace HB := am_ (below_step (hb_ HB.out) hb); clear hb hbox hg; obtain ⟨hcz8_0, hcz8_1, hcz8_2, hfz8_0, hfz8_1, hfz8_2⟩ := bc3_ BK461.out) | ((with_reducible refine gate_callee (f := 29) rfl ?_); refine gl_ Try.func29 #[.agg #[.int .i64 a0_0, .int .i64 a0_1, .slice A0_2 l0_2.length c0_2], .int .i64 a2] ?_; (with_reducible refine (impl_SlotAt.calls k a0_0 a0_1 _ _ l0_2 a2 t462 t463 t464 _ ?side1 ?side2 A5.out).mono ?_); (case side1 => exact kc_ (Kd.C_below HR0_2.out HB.out)); (case side2 => exact HC0_2.out); rintro e w9 ⟨rfl, hb⟩; refine ⟨_, rfl, ?_⟩; replace BK461 := am_ (bb_ BK461.out hb); replace HB := am_ (below_step (hb1_ HB.out GE461.out) hb); (try clear hb); (try clear hb2); (try clear hk); (try clear hi)))
 (try simp only [Act.put, List.setIfInBounds_toArray, List.set_cons_zero, List.set_cons_succ]); go_cut [39] (fun v39 wc => ∃ (kq : Nat) (x39_5 : Bool), v39 = .bool x39_5 ∧ Aside0 (impl_InSlot.j0 kq a3 t462 t463 x39_5 a0_0 a0_1 l0_2 = some (r1, r2, r3)) ∧ Aside0 (kq ≤ k) ∧ Aside0 (wc.heap[gb461]? = some (.cells #[.int .i64 a0_0, .int .i64 a0_1, (.slice A0_2 l0_2.length c0_2)] 30 (0, 0))) ∧ Aside0 (Below w.heap.size w wc))
 case first =>
  have H := HC6.out; clear HC6; by_cases c10 : t464 = true
  ·subst c10; replace H := i1_ H; by_cases c11 : 0 ≤ t462
   ·rw [if_pos c11] at H; have c11b0 : decide (0 ≤ t462) = true := decide_eq_true c11; clear c11; (first | rw [c11b0] | (simp only [i64_w, i32_w]; rw [c11b0]) | skip)
    by_cases c12 : t462 < (l0_2.length : Int)
    ·rw [if_pos c12] at H; have c12b0 : decide (t462 < (l0_2.length : Int)) = true := decide_eq_true c12; clear c12; by_cases c13 : ((rd_T42 l0_2 t462).f0) = a1
     ·rw [if_pos c13] at H; have c13b0 : (((rd_T42 l0_2 t462).f0) == a1) = true := beq_iff_eq.mpr c13; have c13b1 : (((rd_T42 l0_2 t462).f0) != a1) = false := bne_eq_false_iff_eq.mpr c13; clear c13; have H' := Aside0.mk H; clear H; have hcz14_0 := bc_ BK461.out 0 (.int .i64 a0_0) rfl; have hcz14_1 := bc_ BK461.out 1 (.int .i64 a0_1) rfl; have hcz14_2 := bc_ BK461.out 2 (.slice A0_2 l0_2.length c0_2) rfl; have hfz14_0 := blk_frozen BK461.out 0; have hfz14_1 := blk_frozen BK461.out 1; have hfz14_2 := blk_frozen BK461.out 2; have p465 : 0 ≤ (t462 : Int) := of_decide_eq_true (by first | (with_reducible assumption) | assumption); have q465 : t462 < (l0_2.length : Int) := of_decide_eq_true (by first | (with_reducible assumption) | assumption); obtain ⟨ad465, e465, hx465_0, hx465_1⟩ := at_T42 HR0_2.out t462 p465 q465
      cases e465
      replace hx465_0 := (HB.out.cell (World.block_lt_of_cell? w _ hx465_0)).trans hx465_0; replace hx465_1 := (HB.out.cell (World.block_lt_of_cell? w _ hx465_1)).trans hx465_1; replace p465 := eq_true p465; replace q465 := eq_true q465; go_wp2
      go_meet
      case rel => exact ⟨_, (decide (a2 > a3)), (by first | rfl | (simp; done) | (simp [*]; done)), H', ⟨by first | omega | exact Nat.le_refl _⟩, ⟨bk_ BK461.out⟩, ⟨hb1_ HB.out GE461.out⟩⟩
     ·rw [if_neg c13] at H; have c13b0 : (((rd_T42 l0_2 t462).f0) == a1) = false := beq_eq_false_iff_ne.mpr c13; have c13b1 : (((rd_T42 l0_2 t462).f0) != a1) = true := bne_iff_ne.mpr c13; have H' := Aside0.mk H; clear H; have hcz15_0 := bc_ BK461.out 0 (.int .i64 a0_0) rfl; have hcz15_1 := bc_ BK461.out 1 (.int .i64 a0_1) rfl; have hcz15_2 := bc_ BK461.out 2 (.slice A0_2 l0_2.length c0_2) rfl; have hfz15_0 := blk_frozen BK461.out 0; have hfz15_1 := blk_frozen BK461.out 1; have hfz15_2 := blk_frozen BK461.out 2; have p465 : 0 ≤ (t462 : Int) := of_decide_eq_true (by first | (with_reducible assumption) | assumption); have q465 : t462 < (l0_2.length : Int) := of_decide_eq_true (by first | (with_reducible assumption) | assumption); obtain ⟨ad465, e465, hx465_0, hx465_1⟩ := at_T42 HR0_2.out t462 p465 q465
      cases e465
      replace hx465_0 := (HB.out.cell (World.block_lt_of_cell? w _ hx465_0)).trans hx465_0; replace hx465_1 := (HB.out.cell (World.block_lt_of_cell? w _ hx465_1)).trans hx465_1; replace p465 := eq_true p465; replace q465 := eq_true q465; go_wp2
      go_meet
      case rel => exact ⟨_, (true), (by first | rfl | (simp; done) | (simp [*]; done)), H', ⟨by first | omega | exact Nat.le_refl _⟩, ⟨bk_ BK461.out⟩, ⟨hb1_ HB.out GE461.out⟩⟩
    ·rw [if_neg c12] at H; exact absurd H (by simp)
   ·rw [if_neg c11] at H; exact absurd H (by simp)
  ·replace c10 := Bool.eq_false_iff.mpr c10; subst c10; replace H := i0_ H; have H' := Aside0.mk H; clear H; go_wp2
   go_meet
   case rel => exact ⟨_, (true), (by first | rfl | (simp; done) | (simp [*]; done)), H', ⟨by first | omega | exact Nat.le_refl _⟩, ⟨bk_ BK461.out⟩, ⟨hb1_ HB.out GE461.out⟩⟩
 case rest =>
  clear HC6; (try clear c10); (try clear c11); (try clear c11b0); (try clear c12); (try clear c12b0); (try clear c13); (try clear c13b0); (try clear c13b1); (try clear hcz14_0); (try clear hcz14_1); (try clear hcz14_2); (try clear hcz15_0); (try clear hcz15_1); (try clear hcz15_2); (try clear hcz8_0); (try clear hcz8_1); (try clear hcz8_2); (try clear hfz14_0); (try clear hfz14_1); (try clear hfz14_2); (try clear hfz15_0); (try clear hfz15_1); (try clear hfz15_2); (try clear hfz8_0); (try clear hfz8_1); (try clear hfz8_2); (try clear hx465_0); (try clear hx465_1); (try clear p465); (try clear q465); obtain ⟨kq, x39_5, rfl, HA, HJ5, BK461, HB⟩ := hcut
  cases kq with
  | zero => exact absurd HA.out (by simp [impl_InSlot.j0])
  | succ kj5 =>
   have H := HA.out; clear HA; simp only [impl_InSlot.j0] at H
   by_cases c16 : x39_5 = true
   ·subst c16; replace H := i1_ H; simp only [Option.some.injEq, Prod.mk.injEq] at H
    obtain ⟨rfl, rfl, rfl⟩ := H; go_wp2
    go_ret3
    exact ⟨er_, hb1_ HB.out GE461.out⟩
   ·replace c16 := Bool.eq_false_iff.mpr c16; subst c16; replace H := i0_ H; obtain ⟨⟨t466, t467, t468⟩, A17, H⟩ := ab_ H; (try dsimp only at H); by_cases c18 : a3 > t467
    ·rw [if_pos c18] at H; have c18b0 : decide (t467 < a3) = true := decide_eq_true c18; clear c18; simp only [Option.some.injEq, Prod.mk.injEq] at H
     obtain ⟨rfl, rfl, rfl⟩ := H; have hcz19_0 := bc_ BK461.out 0 (.int .i64 a0_0) rfl; have hcz19_1 := bc_ BK461.out 1 (.int .i64 a0_1) rfl; have hcz19_2 := bc_ BK461.out 2 (.slice A0_2 l0_2.length c0_2) rfl; have hfz19_0 := blk_frozen BK461.out 0; have hfz19_1 := blk_frozen BK461.out 1; have hfz19_2 := blk_frozen BK461.out 2
     go_wp2_with (first | ((with_reducible refine gate_callee (f := 12) rfl ?_); refine gl_ Try.func12 #[.agg #[.int .i64 a0_0, .int .i64 a0_1, .slice A0_2 l0_2.length c0_2], .int .i64 t462, .int .i64 t463] ?_; (with_reducible refine (impl_Occurrence.calls kj5 a0_0 a0_1 _ _ l0_2 t462 t463 t466 t467 t468 _ ?side1 ?side2 A17.out).mono ?_); (case side1 => exact kc_ (Kd.C_below HR0_2.out HB.out)); (case side2 => exact HC0_2.out); rintro e w20 ⟨rfl, hb⟩; refine ⟨_, rfl, ?_⟩; replace BK461 := am_ (bb_ BK461.out hb); replace HB := am_ (below_step (hb1_ HB.out GE461.out) hb); (try clear hb); (try clear hb2); (try clear hk); (try clear hi)) | ((with_reducible refine gate_dst (N := 14) rfl ?_); refine be_ (N := 14) (cs := #[.int .i64 0, .int .i64 0]) (t := 25) ?_; intro gb469 hg w21 hbox hb; have BK469 := am_ (hbox); have GW469 := am_ (hy_ hg (hb1_ HB.out GE461.out) : w.heap.size ≤ gb469); have GE469 := GW469; have NB461_469 := am_ (bl_ hg BK461.out : gb461 ≠ gb469); have NB469_461 := nb_ NB461_469; replace BK461 := am_ (bb_ BK461.out hb); replace HB := am_ (below_step (hb1_ HB.out GE461.out) hb); clear hb hbox hg; have hnb22 := NB469_461.out; have hnc22 := NB461_469.out; obtain ⟨hcz23_0, hcz23_1, hfz23_0, hfz23_1⟩ := bc2_ BK469.out))
     go_ret3
     exact ⟨er_, hb2_ HB.out GE461.out GE469.out⟩
    ·rw [if_neg c18] at H; have c18b0 : decide (t467 < a3) = false := decide_eq_false c18; clear c18; simp only [Option.some.injEq, Prod.mk.injEq] at H
     obtain ⟨rfl, rfl, rfl⟩ := H; have hcz24_0 := bc_ BK461.out 0 (.int .i64 a0_0) rfl; have hcz24_1 := bc_ BK461.out 1 (.int .i64 a0_1) rfl; have hcz24_2 := bc_ BK461.out 2 (.slice A0_2 l0_2.length c0_2) rfl; have hfz24_0 := blk_frozen BK461.out 0; have hfz24_1 := blk_frozen BK461.out 1; have hfz24_2 := blk_frozen BK461.out 2
     go_wp2_with (first | ((with_reducible refine gate_callee (f := 12) rfl ?_); refine gl_ Try.func12 #[.agg #[.int .i64 a0_0, .int .i64 a0_1, .slice A0_2 l0_2.length c0_2], .int .i64 t462, .int .i64 t463] ?_; (with_reducible refine (impl_Occurrence.calls kj5 a0_0 a0_1 _ _ l0_2 t462 t463 t466 t467 t468 _ ?side1 ?side2 A17.out).mono ?_); (case side1 => exact kc_ (Kd.C_below HR0_2.out HB.out)); (case side2 => exact HC0_2.out); rintro e w25 ⟨rfl, hb⟩; refine ⟨_, rfl, ?_⟩; replace BK461 := am_ (bb_ BK461.out hb); replace HB := am_ (below_step (hb1_ HB.out GE461.out) hb); (try clear hb); (try clear hb2); (try clear hk); (try clear hi)) | ((with_reducible refine gate_dst (N := 14) rfl ?_); refine be_ (N := 14) (cs := #[.int .i64 0, .int .i64 0]) (t := 25) ?_; intro gb469 hg w26 hbox hb; have BK469 := am_ (hbox); have GW469 := am_ (hy_ hg (hb1_ HB.out GE461.out) : w.heap.size ≤ gb469); have GE469 := GW469; have NB461_469 := am_ (bl_ hg BK461.out : gb461 ≠ gb469); have NB469_461 := nb_ NB461_469; replace BK461 := am_ (bb_ BK461.out hb); replace HB := am_ (below_step (hb1_ HB.out GE461.out) hb); clear hb hbox hg; have hnb27 := NB469_461.out; have hnc27 := NB461_469.out; obtain ⟨hcz28_0, hcz28_1, hfz28_0, hfz28_1⟩ := bc2_ BK469.out))
     go_ret3
     exact ⟨er_, hb2_ HB.out GE461.out GE469.out⟩
end Go.Proofs.Ytllpmpfchidhoaa.P
namespace Go.Proofs.Ytllpmpfchidhoaa.P
open Go.RowKit Go.Proofs.YtllpmpfchidhoaaW.PrintWords Go.Proofs.YtllpmpfchidhoaaW.PrintLast Go.Proofs.YtllpmpfchidhoaaW.PrintMore
attribute [local go_sem] max2_int min2_int max_two min_two max_three min_three max_four min_four
set_option linter.unusedVariables false
set_option linter.unusedSimpArgs false
mutual
def impl_GateAsk.j0 : Nat → Bool → Int → Int → Bool → Int → Int → Int → Int → Int → Int → List (S42) → Option (Int × Int × Int)
 | 0, _, _, _, _, _, _, _, _, _, _, _ => none
 | k + 1, x1, x3, x5, x45, x471000, x471001, x472000, x472001, x473000, x473001, x473002 => if x45 = true then (some (0, 0, 1)) else ((impl_GateSpan.f x471000 x471001 x472000 x472001 x3).bind fun bt482 => (if x1 = true then (impl_GateAsk.j1 k x5 (!bt482.2.2) x473000 x473001 x473002 bt482.1 bt482.2.1) else (impl_GateAsk.j1 k x5 true x473000 x473001 x473002 bt482.1 bt482.2.1)))
def impl_GateAsk.j1 : Nat → Int → Bool → Int → Int → List (S42) → Int → Int → Option (Int × Int × Int)
 | 0, _, _, _, _, _, _, _ => none
 | k + 1, x5, x58, x473000, x473001, x473002, x486000, x486001 => if x58 = true then (some (0, 0, 2)) else ((impl_InSlot.f k x473000 x473001 x473002 x5 x486000 x486001).bind fun bt486 => (if bt486.2.2 = true then (some (bt486.1, bt486.2.1, 0)) else (some (0, 0, 2))))
end
def impl_GateAsk.f (k : Nat) (a0_0 : Int) (a0_1 : Int) (a1 : Bool) (a2_0 : Int) (a2_1 : Int) (a3 : Int) (a4_0 : Int) (a4_1 : Int) (l4_2 : List (S42)) (a5 : Int) : Option (Int × Int × Int) := if a1 = true then ((impl_IvalOk.f a0_0 a0_1).bind fun t473 => (if t473 = true then ((impl_DriftOk.f a2_0 a2_1).bind fun t474 => (if t474 = true then ((impl_in.f a3 1 1000000000000).bind fun t475 => (if t475 = true then ((impl_PlanOk.f k a4_0 a4_1 l4_2).bind fun t476 => (if t476 = true then ((impl_isNode.f a5).bind fun t477 => (impl_GateAsk.j0 k a1 a3 a5 (!t477) a0_0 a0_1 a2_0 a2_1 a4_0 a4_1 l4_2)) else (impl_GateAsk.j0 k a1 a3 a5 true a0_0 a0_1 a2_0 a2_1 a4_0 a4_1 l4_2))) else (impl_GateAsk.j0 k a1 a3 a5 true a0_0 a0_1 a2_0 a2_1 a4_0 a4_1 l4_2))) else (impl_GateAsk.j0 k a1 a3 a5 true a0_0 a0_1 a2_0 a2_1 a4_0 a4_1 l4_2))) else (impl_GateAsk.j0 k a1 a3 a5 true a0_0 a0_1 a2_0 a2_1 a4_0 a4_1 l4_2))) else ((impl_DriftOk.f a2_0 a2_1).bind fun t478 => (if t478 = true then ((impl_in.f a3 1 1000000000000).bind fun t479 => (if t479 = true then ((impl_PlanOk.f k a4_0 a4_1 l4_2).bind fun t480 => (if t480 = true then ((impl_isNode.f a5).bind fun t481 => (impl_GateAsk.j0 k a1 a3 a5 (!t481) a0_0 a0_1 a2_0 a2_1 a4_0 a4_1 l4_2)) else (impl_GateAsk.j0 k a1 a3 a5 true a0_0 a0_1 a2_0 a2_1 a4_0 a4_1 l4_2))) else (impl_GateAsk.j0 k a1 a3 a5 true a0_0 a0_1 a2_0 a2_1 a4_0 a4_1 l4_2))) else (impl_GateAsk.j0 k a1 a3 a5 true a0_0 a0_1 a2_0 a2_1 a4_0 a4_1 l4_2)))
set_option maxHeartbeats 8000000 in
set_option maxRecDepth 100000 in
theorem impl_GateAsk.calls (k : Nat) (a0_0 : Int) (a0_1 : Int) (a1 : Bool) (a2_0 : Int) (a2_1 : Int) (a3 : Int) (a4_0 : Int) (a4_1 : Int) (A4_2 : Option Addr) (c4_2 : Nat) (l4_2 : List (S42)) (a5 : Int) (r1 : Int) (r2 : Int) (r3 : Int) (w : World) (hr4_2 : Kd.C k42 w A4_2 l4_2.length l4_2) (hc4_2 : l4_2.length ≤ c4_2) (h : impl_GateAsk.f k a0_0 a0_1 a1 a2_0 a2_1 a3 a4_0 a4_1 l4_2 a5 = some (r1, r2, r3)) :
  Calls Try.prog 10 #[.agg #[.int .i64 a0_0, .int .i64 a0_1], .bool a1, .agg #[.int .i64 a2_0, .int .i64 a2_1], .int .i64 a3, .agg #[.int .i64 a4_0, .int .i64 a4_1, .slice A4_2 l4_2.length c4_2], .int .i64 a5] w fun e w' => e = .returned (.tuple #[.int .i64 r1, .int .i64 r2, .int .i64 r3]) ∧ Below w.heap.size w w' := by
 have hu25 := Try.underlying25; have hu27 := Try.underlying27; have hu30 := Try.underlying30; have HR4_2 := Aside0.mk hr4_2; have HC4_2 := Aside0.mk hc4_2; clear hr4_2 hc4_2; have HB := am_ (Below.refl w.heap.size w)
 have H : (if a1 = true then ((impl_IvalOk.f a0_0 a0_1).bind fun t473 => (if t473 = true then ((impl_DriftOk.f a2_0 a2_1).bind fun t474 => (if t474 = true then ((impl_in.f a3 1 1000000000000).bind fun t475 => (if t475 = true then ((impl_PlanOk.f k a4_0 a4_1 l4_2).bind fun t476 => (if t476 = true then ((impl_isNode.f a5).bind fun t477 => (impl_GateAsk.j0 k a1 a3 a5 (!t477) a0_0 a0_1 a2_0 a2_1 a4_0 a4_1 l4_2)) else (impl_GateAsk.j0 k a1 a3 a5 true a0_0 a0_1 a2_0 a2_1 a4_0 a4_1 l4_2))) else (impl_GateAsk.j0 k a1 a3 a5 true a0_0 a0_1 a2_0 a2_1 a4_0 a4_1 l4_2))) else (impl_GateAsk.j0 k a1 a3 a5 true a0_0 a0_1 a2_0 a2_1 a4_0 a4_1 l4_2))) else (impl_GateAsk.j0 k a1 a3 a5 true a0_0 a0_1 a2_0 a2_1 a4_0 a4_1 l4_2))) else ((impl_DriftOk.f a2_0 a2_1).bind fun t478 => (if t478 = true then ((impl_in.f a3 1 1000000000000).bind fun t479 => (if t479 = true then ((impl_PlanOk.f k a4_0 a4_1 l4_2).bind fun t480 => (if t480 = true then ((impl_isNode.f a5).bind fun t481 => (impl_GateAsk.j0 k a1 a3 a5 (!t481) a0_0 a0_1 a2_0 a2_1 a4_0 a4_1 l4_2)) else (impl_GateAsk.j0 k a1 a3 a5 true a0_0 a0_1 a2_0 a2_1 a4_0 a4_1 l4_2))) else (impl_GateAsk.j0 k a1 a3 a5 true a0_0 a0_1 a2_0 a2_1 a4_0 a4_1 l4_2))) else (impl_GateAsk.j0 k a1 a3 a5 true a0_0 a0_1 a2_0 a2_1 a4_0 a4_1 l4_2)))) = some (r1, r2, r3) := h; clear h; have HC7 := Aside0.mk H; clear H; go_enter Try.func10, Try.ntmps10
 go_upto_region 1 with (first | ((with_reducible refine gate_dst (N := 6) rfl ?_); refine be_ (N := 6) (cs := #[.int .i64 a0_0, .int .i64 a0_1]) (t := 25) ?_; intro gb470 hg w8 hbox hb; have BK470 := am_ (hbox); have GW470 := am_ (hy_ hg (hb_ HB.out) : w.heap.size ≤ gb470); have GE470 := GW470; replace HB := am_ (below_step (hb_ HB.out) hb); clear hb hbox hg) | ((with_reducible refine gate_dst (N := 8) rfl ?_); refine be_ (N := 8) (cs := #[.int .i64 a2_0, .int .i64 a2_1]) (t := 27) ?_; intro gb471 hg w9 hbox hb; have BK471 := am_ (hbox); have GW471 := am_ (hy_ hg (hb1_ HB.out GE470.out) : w.heap.size ≤ gb471); have GE471 := GW471; have NB470_471 := am_ (bl_ hg BK470.out : gb470 ≠ gb471); have NB471_470 := nb_ NB470_471; replace BK470 := am_ (bb_ BK470.out hb); replace HB := am_ (below_step (hb1_ HB.out GE470.out) hb); clear hb hbox hg) | ((with_reducible refine gate_dst (N := 10) rfl ?_); refine be_ (N := 10) (cs := #[.int .i64 a4_0, .int .i64 a4_1, .slice A4_2 l4_2.length c4_2]) (t := 30) ?_; intro gb472 hg w10 hbox hb; have BK472 := am_ (hbox); have GW472 := am_ (hy_ hg (hb2_ HB.out GE470.out GE471.out) : w.heap.size ≤ gb472); have GE472 := GW472; have NB470_472 := am_ (bl_ hg BK470.out : gb470 ≠ gb472); have NB472_470 := nb_ NB470_472; have NB471_472 := am_ (bl_ hg BK471.out : gb471 ≠ gb472); have NB472_471 := nb_ NB471_472; replace BK470 := am_ (bb_ BK470.out hb); replace BK471 := am_ (bb_ BK471.out hb); replace HB := am_ (below_step (hb2_ HB.out GE470.out GE471.out) hb); clear hb hbox hg))
 (try simp only [Act.put, List.setIfInBounds_toArray, List.set_cons_zero, List.set_cons_succ]); go_cut [45] (fun v45 wc => ∃ (kq : Nat) (x45_6 : Bool), v45 = .bool x45_6 ∧ Aside0 (impl_GateAsk.j0 kq a1 a3 a5 x45_6 a0_0 a0_1 a2_0 a2_1 a4_0 a4_1 l4_2 = some (r1, r2, r3)) ∧ Aside0 (kq ≤ k) ∧ Aside0 (wc.heap[gb470]? = some (.cells #[.int .i64 a0_0, .int .i64 a0_1] 25 (0, 0))) ∧ Aside0 (wc.heap[gb471]? = some (.cells #[.int .i64 a2_0, .int .i64 a2_1] 27 (0, 0))) ∧ Aside0 (wc.heap[gb472]? = some (.cells #[.int .i64 a4_0, .int .i64 a4_1, (.slice A4_2 l4_2.length c4_2)] 30 (0, 0))) ∧ Aside0 (Below w.heap.size w wc))
 case first =>
  have H := HC7.out; clear HC7; by_cases c11 : a1 = true
  ·subst c11; replace H := i1_ H; obtain ⟨t473, A12, H⟩ := ab_ H; by_cases c13 : t473 = true
   ·subst c13; replace H := i1_ H; obtain ⟨t474, A14, H⟩ := ab_ H; by_cases c15 : t474 = true
    ·subst c15; replace H := i1_ H; obtain ⟨t475, A16, H⟩ := ab_ H; by_cases c17 : t475 = true
     ·subst c17; replace H := i1_ H; obtain ⟨t476, A18, H⟩ := ab_ H; by_cases c19 : t476 = true
      ·subst c19; replace H := i1_ H; obtain ⟨t477, A20, H⟩ := ab_ H; have H' := Aside0.mk H; clear H; have hnb21 := NB470_471.out; have hnc21 := NB471_470.out; have hnb22 := NB470_472.out; have hnc22 := NB472_470.out; have hcz23_0 := bc_ BK470.out 0 (.int .i64 a0_0) rfl; have hcz23_1 := bc_ BK470.out 1 (.int .i64 a0_1) rfl; have hfz23_0 := blk_frozen BK470.out 0; have hfz23_1 := blk_frozen BK470.out 1
       go_wp2_with (first | (go_at_call 46; (with_reducible refine (impl_IvalOk.calls a0_0 a0_1 true _ A12.out).mono ?_); rintro e w24 ⟨rfl, hb⟩; replace BK470 := am_ (bb_ BK470.out hb); replace BK471 := am_ (bb_ BK471.out hb); replace BK472 := am_ (bb_ BK472.out hb); replace HB := am_ (below_step (hb3_ HB.out GE470.out GE471.out GE472.out) hb); (try clear hb); (try clear hb2); (try clear hk); (try clear hi); have hnb25 := NB471_472.out; have hnc25 := NB472_471.out; obtain ⟨hcz26_0, hcz26_1, hfz26_0, hfz26_1⟩ := bc2_ BK471.out) | (go_at_call 47; (with_reducible refine (impl_DriftOk.calls a2_0 a2_1 true _ A14.out).mono ?_); rintro e w27 ⟨rfl, hb⟩; replace BK470 := am_ (bb_ BK470.out hb); replace BK471 := am_ (bb_ BK471.out hb); replace BK472 := am_ (bb_ BK472.out hb); replace HB := am_ (below_step (hb3_ HB.out GE470.out GE471.out GE472.out) hb); (try clear hb); (try clear hb2); (try clear hk); (try clear hi)) | (go_at_call 48; (with_reducible refine (impl_in.calls a3 1 1000000000000 true _ A16.out).mono ?_); rintro e w' ⟨rfl, ⟨nd, rfl⟩⟩; obtain ⟨hcz28_0, hcz28_1, hcz28_2, hfz28_0, hfz28_1, hfz28_2⟩ := bc3_ BK472.out) | (go_at_call 34; (with_reducible refine (impl_PlanOk.calls k a4_0 a4_1 _ _ l4_2 true _ ?side1 ?side2 A18.out).mono ?_); (case side1 => repeat (first | exact (Kd.C_below HR4_2.out (hb3_ HB.out GE470.out GE471.out GE472.out)) | (with_reducible refine Kd.C_alloc ?_ _) | (with_reducible refine Kd.C_drewN ?_ _) | (with_reducible refine Kd.C_drew ?_))); (case side2 => exact HC4_2.out); rintro e w29 ⟨rfl, hb⟩; replace BK470 := am_ (bb_ BK470.out hb); replace BK471 := am_ (bb_ BK471.out hb); replace BK472 := am_ (bb_ BK472.out hb); replace HB := am_ (below_step (hb3_ HB.out GE470.out GE471.out GE472.out) hb); (try clear hb); (try clear hb2); (try clear hk); (try clear hi)) | (go_at_call 49; (with_reducible refine (impl_isNode.calls a5 t477 _ A20.out).mono ?_); rintro e w' ⟨rfl, ⟨nd, rfl⟩⟩))
       go_meet
       case rel => exact ⟨_, (!t477), (by first | rfl | (simp; done) | (simp [*]; done)), H', ⟨by first | omega | exact Nat.le_refl _⟩, ⟨bk_ BK470.out⟩, ⟨bk_ BK471.out⟩, ⟨bk_ BK472.out⟩, ⟨hb3_ HB.out GE470.out GE471.out GE472.out⟩⟩
      ·replace c19 := Bool.eq_false_iff.mpr c19; subst c19; replace H := i0_ H; have H' := Aside0.mk H; clear H; have hnb30 := NB470_471.out; have hnc30 := NB471_470.out; have hnb31 := NB470_472.out; have hnc31 := NB472_470.out; have hcz32_0 := bc_ BK470.out 0 (.int .i64 a0_0) rfl; have hcz32_1 := bc_ BK470.out 1 (.int .i64 a0_1) rfl; have hfz32_0 := blk_frozen BK470.out 0; have hfz32_1 := blk_frozen BK470.out 1
       go_wp2_with (first | (go_at_call 46; (with_reducible refine (impl_IvalOk.calls a0_0 a0_1 true _ A12.out).mono ?_); rintro e w33 ⟨rfl, hb⟩; replace BK470 := am_ (bb_ BK470.out hb); replace BK471 := am_ (bb_ BK471.out hb); replace BK472 := am_ (bb_ BK472.out hb); replace HB := am_ (below_step (hb3_ HB.out GE470.out GE471.out GE472.out) hb); (try clear hb); (try clear hb2); (try clear hk); (try clear hi); have hnb34 := NB471_472.out; have hnc34 := NB472_471.out; obtain ⟨hcz35_0, hcz35_1, hfz35_0, hfz35_1⟩ := bc2_ BK471.out) | (go_at_call 47; (with_reducible refine (impl_DriftOk.calls a2_0 a2_1 true _ A14.out).mono ?_); rintro e w36 ⟨rfl, hb⟩; replace BK470 := am_ (bb_ BK470.out hb); replace BK471 := am_ (bb_ BK471.out hb); replace BK472 := am_ (bb_ BK472.out hb); replace HB := am_ (below_step (hb3_ HB.out GE470.out GE471.out GE472.out) hb); (try clear hb); (try clear hb2); (try clear hk); (try clear hi)) | (go_at_call 48; (with_reducible refine (impl_in.calls a3 1 1000000000000 true _ A16.out).mono ?_); rintro e w' ⟨rfl, ⟨nd, rfl⟩⟩; obtain ⟨hcz37_0, hcz37_1, hcz37_2, hfz37_0, hfz37_1, hfz37_2⟩ := bc3_ BK472.out) | (go_at_call 34; (with_reducible refine (impl_PlanOk.calls k a4_0 a4_1 _ _ l4_2 false _ ?side1 ?side2 A18.out).mono ?_); (case side1 => repeat (first | exact (Kd.C_below HR4_2.out (hb3_ HB.out GE470.out GE471.out GE472.out)) | (with_reducible refine Kd.C_alloc ?_ _) | (with_reducible refine Kd.C_drewN ?_ _) | (with_reducible refine Kd.C_drew ?_))); (case side2 => exact HC4_2.out); rintro e w38 ⟨rfl, hb⟩; replace BK470 := am_ (bb_ BK470.out hb); replace BK471 := am_ (bb_ BK471.out hb); replace BK472 := am_ (bb_ BK472.out hb); replace HB := am_ (below_step (hb3_ HB.out GE470.out GE471.out GE472.out) hb); (try clear hb); (try clear hb2); (try clear hk); (try clear hi)))
       go_meet
       case rel => exact ⟨_, (true), (by first | rfl | (simp; done) | (simp [*]; done)), H', ⟨by first | omega | exact Nat.le_refl _⟩, ⟨bk_ BK470.out⟩, ⟨bk_ BK471.out⟩, ⟨bk_ BK472.out⟩, ⟨hb3_ HB.out GE470.out GE471.out GE472.out⟩⟩
     ·replace c17 := Bool.eq_false_iff.mpr c17; subst c17; replace H := i0_ H; have H' := Aside0.mk H; clear H; have hnb39 := NB470_471.out; have hnc39 := NB471_470.out; have hnb40 := NB470_472.out; have hnc40 := NB472_470.out; have hcz41_0 := bc_ BK470.out 0 (.int .i64 a0_0) rfl; have hcz41_1 := bc_ BK470.out 1 (.int .i64 a0_1) rfl; have hfz41_0 := blk_frozen BK470.out 0; have hfz41_1 := blk_frozen BK470.out 1; go_wp2_with (first | (go_at_call 46; (with_reducible refine (impl_IvalOk.calls a0_0 a0_1 true _ A12.out).mono ?_); rintro e w42 ⟨rfl, hb⟩; replace BK470 := am_ (bb_ BK470.out hb); replace BK471 := am_ (bb_ BK471.out hb); replace BK472 := am_ (bb_ BK472.out hb); replace HB := am_ (below_step (hb3_ HB.out GE470.out GE471.out GE472.out) hb); (try clear hb); (try clear hb2); (try clear hk); (try clear hi); have hnb43 := NB471_472.out; have hnc43 := NB472_471.out; obtain ⟨hcz44_0, hcz44_1, hfz44_0, hfz44_1⟩ := bc2_ BK471.out) | (go_at_call 47; (with_reducible refine (impl_DriftOk.calls a2_0 a2_1 true _ A14.out).mono ?_); rintro e w45 ⟨rfl, hb⟩; replace BK470 := am_ (bb_ BK470.out hb); replace BK471 := am_ (bb_ BK471.out hb); replace BK472 := am_ (bb_ BK472.out hb); replace HB := am_ (below_step (hb3_ HB.out GE470.out GE471.out GE472.out) hb); (try clear hb); (try clear hb2); (try clear hk); (try clear hi)) | (go_at_call 48; (with_reducible refine (impl_in.calls a3 1 1000000000000 false _ A16.out).mono ?_); rintro e w' ⟨rfl, ⟨nd, rfl⟩⟩))
      go_meet
      case rel => exact ⟨_, (true), (by first | rfl | (simp; done) | (simp [*]; done)), H', ⟨by first | omega | exact Nat.le_refl _⟩, ⟨bk_ BK470.out⟩, ⟨bk_ BK471.out⟩, ⟨bk_ BK472.out⟩, ⟨hb3_ HB.out GE470.out GE471.out GE472.out⟩⟩
    ·replace c15 := Bool.eq_false_iff.mpr c15; subst c15; replace H := i0_ H; have H' := Aside0.mk H; clear H; have hnb46 := NB470_471.out; have hnc46 := NB471_470.out; have hnb47 := NB470_472.out; have hnc47 := NB472_470.out; have hcz48_0 := bc_ BK470.out 0 (.int .i64 a0_0) rfl; have hcz48_1 := bc_ BK470.out 1 (.int .i64 a0_1) rfl; have hfz48_0 := blk_frozen BK470.out 0; have hfz48_1 := blk_frozen BK470.out 1; go_wp2_with (first | (go_at_call 46; (with_reducible refine (impl_IvalOk.calls a0_0 a0_1 true _ A12.out).mono ?_); rintro e w49 ⟨rfl, hb⟩; replace BK470 := am_ (bb_ BK470.out hb); replace BK471 := am_ (bb_ BK471.out hb); replace BK472 := am_ (bb_ BK472.out hb); replace HB := am_ (below_step (hb3_ HB.out GE470.out GE471.out GE472.out) hb); (try clear hb); (try clear hb2); (try clear hk); (try clear hi); have hnb50 := NB471_472.out; have hnc50 := NB472_471.out; obtain ⟨hcz51_0, hcz51_1, hfz51_0, hfz51_1⟩ := bc2_ BK471.out) | (go_at_call 47; (with_reducible refine (impl_DriftOk.calls a2_0 a2_1 false _ A14.out).mono ?_); rintro e w52 ⟨rfl, hb⟩; replace BK470 := am_ (bb_ BK470.out hb); replace BK471 := am_ (bb_ BK471.out hb); replace BK472 := am_ (bb_ BK472.out hb); replace HB := am_ (below_step (hb3_ HB.out GE470.out GE471.out GE472.out) hb); (try clear hb); (try clear hb2); (try clear hk); (try clear hi)))
     go_meet
     case rel => exact ⟨_, (true), (by first | rfl | (simp; done) | (simp [*]; done)), H', ⟨by first | omega | exact Nat.le_refl _⟩, ⟨bk_ BK470.out⟩, ⟨bk_ BK471.out⟩, ⟨bk_ BK472.out⟩, ⟨hb3_ HB.out GE470.out GE471.out GE472.out⟩⟩
   ·replace c13 := Bool.eq_false_iff.mpr c13; subst c13; replace H := i0_ H; have H' := Aside0.mk H; clear H; have hnb53 := NB470_471.out; have hnc53 := NB471_470.out; have hnb54 := NB470_472.out; have hnc54 := NB472_470.out; have hcz55_0 := bc_ BK470.out 0 (.int .i64 a0_0) rfl; have hcz55_1 := bc_ BK470.out 1 (.int .i64 a0_1) rfl; have hfz55_0 := blk_frozen BK470.out 0; have hfz55_1 := blk_frozen BK470.out 1; go_wp2_with (first | (go_at_call 46; (with_reducible refine (impl_IvalOk.calls a0_0 a0_1 false _ A12.out).mono ?_); rintro e w56 ⟨rfl, hb⟩; replace BK470 := am_ (bb_ BK470.out hb); replace BK471 := am_ (bb_ BK471.out hb); replace BK472 := am_ (bb_ BK472.out hb); replace HB := am_ (below_step (hb3_ HB.out GE470.out GE471.out GE472.out) hb); (try clear hb); (try clear hb2); (try clear hk); (try clear hi)))
    go_meet
    case rel => exact ⟨_, (true), (by first | rfl | (simp; done) | (simp [*]; done)), H', ⟨by first | omega | exact Nat.le_refl _⟩, ⟨bk_ BK470.out⟩, ⟨bk_ BK471.out⟩, ⟨bk_ BK472.out⟩, ⟨hb3_ HB.out GE470.out GE471.out GE472.out⟩⟩
  ·replace c11 := Bool.eq_false_iff.mpr c11; subst c11; replace H := i0_ H; obtain ⟨t478, A57, H⟩ := ab_ H; by_cases c58 : t478 = true
   ·subst c58; replace H := i1_ H; obtain ⟨t479, A59, H⟩ := ab_ H; by_cases c60 : t479 = true
    ·subst c60; replace H := i1_ H; obtain ⟨t480, A61, H⟩ := ab_ H; by_cases c62 : t480 = true
     ·subst c62; replace H := i1_ H; obtain ⟨t481, A63, H⟩ := ab_ H; have H' := Aside0.mk H; clear H; have hnb64 := NB471_470.out; have hnc64 := NB470_471.out; have hnb65 := NB471_472.out; have hnc65 := NB472_471.out; have hcz66_0 := bc_ BK471.out 0 (.int .i64 a2_0) rfl; have hcz66_1 := bc_ BK471.out 1 (.int .i64 a2_1) rfl; have hfz66_0 := blk_frozen BK471.out 0; have hfz66_1 := blk_frozen BK471.out 1
      go_wp2_with (first | (go_at_call 47; (with_reducible refine (impl_DriftOk.calls a2_0 a2_1 true _ A57.out).mono ?_); rintro e w67 ⟨rfl, hb⟩; replace BK470 := am_ (bb_ BK470.out hb); replace BK471 := am_ (bb_ BK471.out hb); replace BK472 := am_ (bb_ BK472.out hb); replace HB := am_ (below_step (hb3_ HB.out GE470.out GE471.out GE472.out) hb); (try clear hb); (try clear hb2); (try clear hk); (try clear hi)) | (go_at_call 48; (with_reducible refine (impl_in.calls a3 1 1000000000000 true _ A59.out).mono ?_); rintro e w' ⟨rfl, ⟨nd, rfl⟩⟩; have hnb68 := NB472_470.out; have hnc68 := NB470_472.out; obtain ⟨hcz69_0, hcz69_1, hcz69_2, hfz69_0, hfz69_1, hfz69_2⟩ := bc3_ BK472.out) | (go_at_call 34; (with_reducible refine (impl_PlanOk.calls k a4_0 a4_1 _ _ l4_2 true _ ?side1 ?side2 A61.out).mono ?_); (case side1 => repeat (first | exact (Kd.C_below HR4_2.out (hb3_ HB.out GE470.out GE471.out GE472.out)) | (with_reducible refine Kd.C_alloc ?_ _) | (with_reducible refine Kd.C_drewN ?_ _) | (with_reducible refine Kd.C_drew ?_))); (case side2 => exact HC4_2.out); rintro e w70 ⟨rfl, hb⟩; replace BK470 := am_ (bb_ BK470.out hb); replace BK471 := am_ (bb_ BK471.out hb); replace BK472 := am_ (bb_ BK472.out hb); replace HB := am_ (below_step (hb3_ HB.out GE470.out GE471.out GE472.out) hb); (try clear hb); (try clear hb2); (try clear hk); (try clear hi)) | (go_at_call 49; (with_reducible refine (impl_isNode.calls a5 t481 _ A63.out).mono ?_); rintro e w' ⟨rfl, ⟨nd, rfl⟩⟩))
      go_meet
      case rel => exact ⟨_, (!t481), (by first | rfl | (simp; done) | (simp [*]; done)), H', ⟨by first | omega | exact Nat.le_refl _⟩, ⟨bk_ BK470.out⟩, ⟨bk_ BK471.out⟩, ⟨bk_ BK472.out⟩, ⟨hb3_ HB.out GE470.out GE471.out GE472.out⟩⟩
     ·replace c62 := Bool.eq_false_iff.mpr c62; subst c62; replace H := i0_ H; have H' := Aside0.mk H; clear H; have hnb71 := NB471_470.out; have hnc71 := NB470_471.out; have hnb72 := NB471_472.out; have hnc72 := NB472_471.out; have hcz73_0 := bc_ BK471.out 0 (.int .i64 a2_0) rfl; have hcz73_1 := bc_ BK471.out 1 (.int .i64 a2_1) rfl; have hfz73_0 := blk_frozen BK471.out 0; have hfz73_1 := blk_frozen BK471.out 1
      go_wp2_with (first | (go_at_call 47; (with_reducible refine (impl_DriftOk.calls a2_0 a2_1 true _ A57.out).mono ?_); rintro e w74 ⟨rfl, hb⟩; replace BK470 := am_ (bb_ BK470.out hb); replace BK471 := am_ (bb_ BK471.out hb); replace BK472 := am_ (bb_ BK472.out hb); replace HB := am_ (below_step (hb3_ HB.out GE470.out GE471.out GE472.out) hb); (try clear hb); (try clear hb2); (try clear hk); (try clear hi)) | (go_at_call 48; (with_reducible refine (impl_in.calls a3 1 1000000000000 true _ A59.out).mono ?_); rintro e w' ⟨rfl, ⟨nd, rfl⟩⟩; have hnb75 := NB472_470.out; have hnc75 := NB470_472.out; obtain ⟨hcz76_0, hcz76_1, hcz76_2, hfz76_0, hfz76_1, hfz76_2⟩ := bc3_ BK472.out) | (go_at_call 34; (with_reducible refine (impl_PlanOk.calls k a4_0 a4_1 _ _ l4_2 false _ ?side1 ?side2 A61.out).mono ?_); (case side1 => repeat (first | exact (Kd.C_below HR4_2.out (hb3_ HB.out GE470.out GE471.out GE472.out)) | (with_reducible refine Kd.C_alloc ?_ _) | (with_reducible refine Kd.C_drewN ?_ _) | (with_reducible refine Kd.C_drew ?_))); (case side2 => exact HC4_2.out); rintro e w77 ⟨rfl, hb⟩; replace BK470 := am_ (bb_ BK470.out hb); replace BK471 := am_ (bb_ BK471.out hb); replace BK472 := am_ (bb_ BK472.out hb); replace HB := am_ (below_step (hb3_ HB.out GE470.out GE471.out GE472.out) hb); (try clear hb); (try clear hb2); (try clear hk); (try clear hi)))
      go_meet
      case rel => exact ⟨_, (true), (by first | rfl | (simp; done) | (simp [*]; done)), H', ⟨by first | omega | exact Nat.le_refl _⟩, ⟨bk_ BK470.out⟩, ⟨bk_ BK471.out⟩, ⟨bk_ BK472.out⟩, ⟨hb3_ HB.out GE470.out GE471.out GE472.out⟩⟩
    ·replace c60 := Bool.eq_false_iff.mpr c60; subst c60; replace H := i0_ H; have H' := Aside0.mk H; clear H; have hnb78 := NB471_470.out; have hnc78 := NB470_471.out; have hnb79 := NB471_472.out; have hnc79 := NB472_471.out; have hcz80_0 := bc_ BK471.out 0 (.int .i64 a2_0) rfl; have hcz80_1 := bc_ BK471.out 1 (.int .i64 a2_1) rfl; have hfz80_0 := blk_frozen BK471.out 0; have hfz80_1 := blk_frozen BK471.out 1; go_wp2_with (first | (go_at_call 47; (with_reducible refine (impl_DriftOk.calls a2_0 a2_1 true _ A57.out).mono ?_); rintro e w81 ⟨rfl, hb⟩; replace BK470 := am_ (bb_ BK470.out hb); replace BK471 := am_ (bb_ BK471.out hb); replace BK472 := am_ (bb_ BK472.out hb); replace HB := am_ (below_step (hb3_ HB.out GE470.out GE471.out GE472.out) hb); (try clear hb); (try clear hb2); (try clear hk); (try clear hi)) | (go_at_call 48; (with_reducible refine (impl_in.calls a3 1 1000000000000 false _ A59.out).mono ?_); rintro e w' ⟨rfl, ⟨nd, rfl⟩⟩))
     go_meet
     case rel => exact ⟨_, (true), (by first | rfl | (simp; done) | (simp [*]; done)), H', ⟨by first | omega | exact Nat.le_refl _⟩, ⟨bk_ BK470.out⟩, ⟨bk_ BK471.out⟩, ⟨bk_ BK472.out⟩, ⟨hb3_ HB.out GE470.out GE471.out GE472.out⟩⟩
   ·replace c58 := Bool.eq_false_iff.mpr c58; subst c58; replace H := i0_ H; have H' := Aside0.mk H; clear H; have hnb82 := NB471_470.out; have hnc82 := NB470_471.out; have hnb83 := NB471_472.out; have hnc83 := NB472_471.out; have hcz84_0 := bc_ BK471.out 0 (.int .i64 a2_0) rfl; have hcz84_1 := bc_ BK471.out 1 (.int .i64 a2_1) rfl; have hfz84_0 := blk_frozen BK471.out 0; have hfz84_1 := blk_frozen BK471.out 1; go_wp2_with (first | (go_at_call 47; (with_reducible refine (impl_DriftOk.calls a2_0 a2_1 false _ A57.out).mono ?_); rintro e w85 ⟨rfl, hb⟩; replace BK470 := am_ (bb_ BK470.out hb); replace BK471 := am_ (bb_ BK471.out hb); replace BK472 := am_ (bb_ BK472.out hb); replace HB := am_ (below_step (hb3_ HB.out GE470.out GE471.out GE472.out) hb); (try clear hb); (try clear hb2); (try clear hk); (try clear hi)))
    go_meet
    case rel => exact ⟨_, (true), (by first | rfl | (simp; done) | (simp [*]; done)), H', ⟨by first | omega | exact Nat.le_refl _⟩, ⟨bk_ BK470.out⟩, ⟨bk_ BK471.out⟩, ⟨bk_ BK472.out⟩, ⟨hb3_ HB.out GE470.out GE471.out GE472.out⟩⟩
 case rest =>
  clear HC7; (try clear c11); (try clear c13); (try clear c15); (try clear c17); (try clear c19); (try clear c58); (try clear c60); (try clear c62); (try clear hcz23_0); (try clear hcz23_1); (try clear hcz26_0); (try clear hcz26_1); (try clear hcz28_0); (try clear hcz28_1); (try clear hcz28_2); (try clear hcz32_0); (try clear hcz32_1); (try clear hcz35_0); (try clear hcz35_1); (try clear hcz37_0); (try clear hcz37_1); (try clear hcz37_2); (try clear hcz41_0); (try clear hcz41_1); (try clear hcz44_0); (try clear hcz44_1); (try clear hcz48_0); (try clear hcz48_1); (try clear hcz51_0); (try clear hcz51_1); (try clear hcz55_0); (try clear hcz55_1); (try clear hcz66_0); (try clear hcz66_1); (try clear hcz69_0); (try clear hcz69_1); (try clear hcz69_2); (try clear hcz73_0); (try clear hcz73_1); (try clear hcz76_0); (try clear hcz76_1); (try clear hcz76_2); (try clear hcz80_0); (try clear hcz80_1); (try clear hcz84_0); (try clear hcz84_1); (try clear hfz23_0); (try clear hfz23_1); (try clear hfz26_0); (try clear hfz26_1); (try clear hfz28_0); (try clear hfz28_1); (try clear hfz28_2); (try clear hfz32_0); (try clear hfz32_1); (try clear hfz35_0); (try clear hfz35_1); (try clear hfz37_0); (try clear hfz37_1); (try clear hfz37_2); (try clear hfz41_0); (try clear hfz41_1); (try clear hfz44_0); (try clear hfz44_1); (try clear hfz48_0); (try clear hfz48_1); (try clear hfz51_0); (try clear hfz51_1); (try clear hfz55_0); (try clear hfz55_1); (try clear hfz66_0); (try clear hfz66_1)
  (try clear hfz69_0); (try clear hfz69_1); (try clear hfz69_2); (try clear hfz73_0); (try clear hfz73_1); (try clear hfz76_0); (try clear hfz76_1); (try clear hfz76_2); (try clear hfz80_0); (try clear hfz80_1); (try clear hfz84_0); (try clear hfz84_1); obtain ⟨kq, x45_6, rfl, HA, HJ6, BK470, BK471, BK472, HB⟩ := hcut
  cases kq with
  | zero => exact absurd HA.out (by simp [impl_GateAsk.j0])
  | succ kj6 =>
   have H := HA.out; clear HA; simp only [impl_GateAsk.j0] at H
   by_cases c86 : x45_6 = true
   ·subst c86; replace H := i1_ H; simp only [Option.some.injEq, Prod.mk.injEq] at H
    obtain ⟨rfl, rfl, rfl⟩ := H; go_wp2
    go_ret3
    exact ⟨er_, hb3_ HB.out GE470.out GE471.out GE472.out⟩
   ·replace c86 := Bool.eq_false_iff.mpr c86; subst c86; replace H := i0_ H; obtain ⟨⟨t482, t483, t484⟩, A87, H⟩ := ab_ H; (try dsimp only at H); have HC88 := Aside0.mk H; clear H; have hnb89 := NB470_471.out; have hnc89 := NB471_470.out; have hnb90 := NB470_472.out; have hnc90 := NB472_470.out; have hcz91_0 := bc_ BK470.out 0 (.int .i64 a0_0) rfl; have hcz91_1 := bc_ BK470.out 1 (.int .i64 a0_1) rfl; have hfz91_0 := blk_frozen BK470.out 0; have hfz91_1 := blk_frozen BK470.out 1; have hnb92 := NB471_472.out; have hnc92 := NB472_471.out; have hcz93_0 := bc_ BK471.out 0 (.int .i64 a2_0) rfl; have hcz93_1 := bc_ BK471.out 1 (.int .i64 a2_1) rfl; have hfz93_0 := blk_frozen BK471.out 0; have hfz93_1 := blk_frozen BK471.out 1
    go_upto_region 4 with (first | ((with_reducible refine gate_callee (f := 50) rfl ?_); refine gl_ Try.func50 #[.agg #[.int .i64 a0_0, .int .i64 a0_1], .agg #[.int .i64 a2_0, .int .i64 a2_1], .int .i64 a3] ?_; (with_reducible refine (impl_GateSpan.calls a0_0 a0_1 a2_0 a2_1 a3 t482 t483 t484 _ A87.out).mono ?_); rintro e w94 ⟨rfl, hb⟩; refine ⟨_, rfl, ?_⟩; replace BK470 := am_ (bb_ BK470.out hb); replace BK471 := am_ (bb_ BK471.out hb); replace BK472 := am_ (bb_ BK472.out hb); replace HB := am_ (below_step (hb3_ HB.out GE470.out GE471.out GE472.out) hb); (try clear hb); (try clear hb2); (try clear hk); (try clear hi)) | ((with_reducible refine gate_dst (N := 15) rfl ?_); refine be_ (N := 15) (cs := #[.int .i64 0, .int .i64 0]) (t := 25) ?_; intro gb485 hg w95 hbox hb; have BK485 := am_ (hbox); have GW485 := am_ (hy_ hg (hb3_ HB.out GE470.out GE471.out GE472.out) : w.heap.size ≤ gb485); have GE485 := GW485; have NB470_485 := am_ (bl_ hg BK470.out : gb470 ≠ gb485); have NB485_470 := nb_ NB470_485; have NB471_485 := am_ (bl_ hg BK471.out : gb471 ≠ gb485); have NB485_471 := nb_ NB471_485; have NB472_485 := am_ (bl_ hg BK472.out : gb472 ≠ gb485); have NB485_472 := nb_ NB472_485; replace BK470 := am_ (bb_ BK470.out hb); replace BK471 := am_ (bb_ BK471.out hb); replace BK472 := am_ (bb_ BK472.out hb); replace HB := am_ (below_step (hb3_ HB.out GE470.out GE471.out GE472.out) hb); clear hb hbox hg; have hnb96 := NB485_470.out; have hnc96 := NB470_485.out; have hnb97 := NB485_471.out; have hnc97 := NB471_485.out; have hnb98 := NB485_472.out; have hnc98 := NB472_485.out; obtain ⟨hcz99_0, hcz99_1, hfz99_0, hfz99_1⟩ := bc2_ BK485.out))
    (try simp only [Act.put, List.setIfInBounds_toArray, List.set_cons_zero, List.set_cons_succ]); go_cut [58] (fun v58 wc => ∃ (kq : Nat) (x58_87 : Bool), v58 = .bool x58_87 ∧ Aside0 (impl_GateAsk.j1 kq a5 x58_87 a4_0 a4_1 l4_2 t482 t483 = some (r1, r2, r3)) ∧ Aside0 (kq ≤ kj6) ∧ Aside0 (wc.heap[gb470]? = some (.cells #[.int .i64 a0_0, .int .i64 a0_1] 25 (0, 0))) ∧ Aside0 (wc.heap[gb471]? = some (.cells #[.int .i64 a2_0, .int .i64 a2_1] 27 (0, 0))) ∧ Aside0 (wc.heap[gb472]? = some (.cells #[.int .i64 a4_0, .int .i64 a4_1, (.slice A4_2 l4_2.length c4_2)] 30 (0, 0))) ∧ Aside0 (wc.heap[gb485]? = some (.cells #[.int .i64 t482, .int .i64 t483] 25 (0, 0))) ∧ Aside0 (Below w.heap.size w wc))
    case first =>
     have H := HC88.out; clear HC88; by_cases c100 : a1 = true
     ·subst c100; replace H := i1_ H; have H' := Aside0.mk H; clear H; go_wp2
      go_meet
      case rel => exact ⟨_, (!t484), (by first | rfl | (simp; done) | (simp [*]; done)), H', ⟨by have := HJ6.out; first | omega | exact Nat.le_refl _⟩, ⟨by (with_reducible repeat (first | refine blk_drewN ?_ _ | refine blk_drew ?_ | refine blk_alloc ?_ _)); refine blk_far ?_ NB470_485.out _; (with_reducible repeat (first | refine blk_drewN ?_ _ | refine blk_drew ?_ | refine blk_alloc ?_ _)); refine blk_far ?_ NB470_485.out _; (with_reducible repeat (first | refine blk_drewN ?_ _ | refine blk_drew ?_ | refine blk_alloc ?_ _)); exact BK470.out⟩, ⟨by (with_reducible repeat (first | refine blk_drewN ?_ _ | refine blk_drew ?_ | refine blk_alloc ?_ _)); refine blk_far ?_ NB471_485.out _; (with_reducible repeat (first | refine blk_drewN ?_ _ | refine blk_drew ?_ | refine blk_alloc ?_ _)); refine blk_far ?_ NB471_485.out _; (with_reducible repeat (first | refine blk_drewN ?_ _ | refine blk_drew ?_ | refine blk_alloc ?_ _)); exact BK471.out⟩, ⟨by (with_reducible repeat (first | refine blk_drewN ?_ _ | refine blk_drew ?_ | refine blk_alloc ?_ _)); refine blk_far ?_ NB472_485.out _; (with_reducible repeat (first | refine blk_drewN ?_ _ | refine blk_drew ?_ | refine blk_alloc ?_ _)); refine blk_far ?_ NB472_485.out _; (with_reducible repeat (first | refine blk_drewN ?_ _ | refine blk_drew ?_ | refine blk_alloc ?_ _)); exact BK472.out⟩, ⟨by (with_reducible repeat (first | refine blk_drewN ?_ _ | refine blk_drew ?_ | refine blk_alloc ?_ _)); refine blk_put (cs := #[.int .i64 t482, .int .i64 0]) ?_ 1 _ rfl; (with_reducible repeat (first | refine blk_drewN ?_ _ | refine blk_drew ?_ | refine blk_alloc ?_ _)); refine blk_put (cs := #[.int .i64 0, .int .i64 0]) ?_ 0 _ rfl; (with_reducible repeat (first | refine blk_drewN ?_ _ | refine blk_drew ?_ | refine blk_alloc ?_ _)); exact BK485.out⟩, ⟨hb4_ HB.out GE470.out GE471.out GE472.out GE485.out⟩⟩
     ·replace c100 := Bool.eq_false_iff.mpr c100; subst c100; replace H := i0_ H; have H' := Aside0.mk H; clear H; go_wp2
      go_meet
      case rel => exact ⟨_, (true), (by first | rfl | (simp; done) | (simp [*]; done)), H', ⟨by have := HJ6.out; first | omega | exact Nat.le_refl _⟩, ⟨by (with_reducible repeat (first | refine blk_drewN ?_ _ | refine blk_drew ?_ | refine blk_alloc ?_ _)); refine blk_far ?_ NB470_485.out _; (with_reducible repeat (first | refine blk_drewN ?_ _ | refine blk_drew ?_ | refine blk_alloc ?_ _)); refine blk_far ?_ NB470_485.out _; (with_reducible repeat (first | refine blk_drewN ?_ _ | refine blk_drew ?_ | refine blk_alloc ?_ _)); exact BK470.out⟩, ⟨by (with_reducible repeat (first | refine blk_drewN ?_ _ | refine blk_drew ?_ | refine blk_alloc ?_ _)); refine blk_far ?_ NB471_485.out _; (with_reducible repeat (first | refine blk_drewN ?_ _ | refine blk_drew ?_ | refine blk_alloc ?_ _)); refine blk_far ?_ NB471_485.out _; (with_reducible repeat (first | refine blk_drewN ?_ _ | refine blk_drew ?_ | refine blk_alloc ?_ _)); exact BK471.out⟩, ⟨by (with_reducible repeat (first | refine blk_drewN ?_ _ | refine blk_drew ?_ | refine blk_alloc ?_ _)); refine blk_far ?_ NB472_485.out _; (with_reducible repeat (first | refine blk_drewN ?_ _ | refine blk_drew ?_ | refine blk_alloc ?_ _)); refine blk_far ?_ NB472_485.out _; (with_reducible repeat (first | refine blk_drewN ?_ _ | refine blk_drew ?_ | refine blk_alloc ?_ _)); exact BK472.out⟩, ⟨by (with_reducible repeat (first | refine blk_drewN ?_ _ | refine blk_drew ?_ | refine blk_alloc ?_ _)); refine blk_put (cs := #[.int .i64 t482, .int .i64 0]) ?_ 1 _ rfl; (with_reducible repeat (first | refine blk_drewN ?_ _ | refine blk_drew ?_ | refine blk_alloc ?_ _)); refine blk_put (cs := #[.int .i64 0, .int .i64 0]) ?_ 0 _ rfl; (with_reducible repeat (first | refine blk_drewN ?_ _ | refine blk_drew ?_ | refine blk_alloc ?_ _)); exact BK485.out⟩, ⟨hb4_ HB.out GE470.out GE471.out GE472.out GE485.out⟩⟩
    case rest =>
     clear HC88; (try clear c11); (try clear c13); (try clear c15); (try clear c17); (try clear c19); (try clear c58); (try clear c60); (try clear c62); (try clear c86); (try clear c100); (try clear hcz23_0); (try clear hcz23_1); (try clear hcz26_0); (try clear hcz26_1); (try clear hcz28_0); (try clear hcz28_1); (try clear hcz28_2); (try clear hcz32_0); (try clear hcz32_1); (try clear hcz35_0); (try clear hcz35_1); (try clear hcz37_0); (try clear hcz37_1); (try clear hcz37_2); (try clear hcz41_0); (try clear hcz41_1); (try clear hcz44_0); (try clear hcz44_1); (try clear hcz48_0); (try clear hcz48_1); (try clear hcz51_0); (try clear hcz51_1); (try clear hcz55_0); (try clear hcz55_1); (try clear hcz66_0); (try clear hcz66_1); (try clear hcz69_0); (try clear hcz69_1); (try clear hcz69_2); (try clear hcz73_0); (try clear hcz73_1); (try clear hcz76_0); (try clear hcz76_1); (try clear hcz76_2); (try clear hcz80_0); (try clear hcz80_1); (try clear hcz84_0); (try clear hcz84_1); (try clear hcz91_0); (try clear hcz91_1); (try clear hcz93_0); (try clear hcz93_1); (try clear hcz99_0); (try clear hcz99_1); (try clear hfz23_0); (try clear hfz23_1); (try clear hfz26_0); (try clear hfz26_1); (try clear hfz28_0); (try clear hfz28_1); (try clear hfz28_2); (try clear hfz32_0); (try clear hfz32_1); (try clear hfz35_0); (try clear hfz35_1); (try clear hfz37_0); (try clear hfz37_1); (try clear hfz37_2); (try clear hfz41_0); (try clear hfz41_1); (try clear hfz44_0); (try clear hfz44_1)
     (try clear hfz48_0); (try clear hfz48_1); (try clear hfz51_0); (try clear hfz51_1); (try clear hfz55_0); (try clear hfz55_1); (try clear hfz66_0); (try clear hfz66_1); (try clear hfz69_0); (try clear hfz69_1); (try clear hfz69_2); (try clear hfz73_0); (try clear hfz73_1); (try clear hfz76_0); (try clear hfz76_1); (try clear hfz76_2); (try clear hfz80_0); (try clear hfz80_1); (try clear hfz84_0); (try clear hfz84_1); (try clear hfz91_0); (try clear hfz91_1); (try clear hfz93_0); (try clear hfz93_1); (try clear hfz99_0); (try clear hfz99_1); obtain ⟨kq, x58_87, rfl, HA, HJ87, BK470, BK471, BK472, BK485, HB⟩ := hcut
     cases kq with
     | zero => exact absurd HA.out (by simp [impl_GateAsk.j1])
     | succ kj87 =>
      have H := HA.out; clear HA; simp only [impl_GateAsk.j1] at H
      by_cases c101 : x58_87 = true
      ·subst c101; replace H := i1_ H; simp only [Option.some.injEq, Prod.mk.injEq] at H
       obtain ⟨rfl, rfl, rfl⟩ := H; go_wp2
       go_ret3
       exact ⟨er_, hb4_ HB.out GE470.out GE471.out GE472.out GE485.out⟩
      ·replace c101 := Bool.eq_false_iff.mpr c101; subst c101; replace H := i0_ H; obtain ⟨⟨t486, t487, t488⟩, A102, H⟩ := ab_ H; (try dsimp only at H); by_cases c103 : t488 = true
       ·subst c103; replace H := i1_ H; simp only [Option.some.injEq, Prod.mk.injEq] at H
        obtain ⟨rfl, rfl, rfl⟩ := H; have hnb104 := NB472_470.out; have hnc104 := NB470_472.out; have hnb105 := NB472_471.out; have hnc105 := NB471_472.out; have hnb106 := NB472_485.out; have hnc106 := NB485_472.out; have hcz107_0 := bc_ BK472.out 0 (.int .i64 a4_0) rfl; have hcz107_1 := bc_ BK472.out 1 (.int .i64 a4_1) rfl; have hcz107_2 := bc_ BK472.out 2 (.slice A4_2 l4_2.length c4_2) rfl; have hfz107_0 := blk_frozen BK472.out 0; have hfz107_1 := blk_frozen BK472.out 1; have hfz107_2 := blk_frozen BK472.out 2; have hnb108 := NB485_470.out; have hnc108 := NB470_485.out; have hnb109 := NB485_471.out; have hnc109 := NB471_485.out; have hcz110_0 := bc_ BK485.out 0 (.int .i64 t482) rfl; have hcz110_1 := bc_ BK485.out 1 (.int .i64 t483) rfl; have hfz110_0 := blk_frozen BK485.out 0; have hfz110_1 := blk_frozen BK485.out 1
        go_wp2_with (first | ((with_reducible refine gate_callee (f := 51) rfl ?_); refine gl_ Try.func51 #[.agg #[.int .i64 a4_0, .int .i64 a4_1, .slice A4_2 l4_2.length c4_2], .int .i64 a5, .int .i64 t482, .int .i64 t483] ?_; (with_reducible refine (impl_InSlot.calls kj87 a4_0 a4_1 _ _ l4_2 a5 t482 t483 t486 t487 true _ ?side1 ?side2 A102.out).mono ?_); (case side1 => exact kc_ (Kd.C_below HR4_2.out HB.out)); (case side2 => exact HC4_2.out); rintro e w111 ⟨rfl, hb⟩; refine ⟨_, rfl, ?_⟩; replace BK470 := am_ (bb_ BK470.out hb); replace BK471 := am_ (bb_ BK471.out hb); replace BK472 := am_ (bb_ BK472.out hb); replace BK485 := am_ (bb_ BK485.out hb); replace HB := am_ (below_step (hb4_ HB.out GE470.out GE471.out GE472.out GE485.out) hb); (try clear hb); (try clear hb2); (try clear hk); (try clear hi)))
        go_ret3
        exact ⟨er_, hb4_ HB.out GE470.out GE471.out GE472.out GE485.out⟩
       ·replace c103 := Bool.eq_false_iff.mpr c103; subst c103; replace H := i0_ H; simp only [Option.some.injEq, Prod.mk.injEq] at H
        obtain ⟨rfl, rfl, rfl⟩ := H; have hnb112 := NB472_470.out; have hnc112 := NB470_472.out; have hnb113 := NB472_471.out; have hnc113 := NB471_472.out; have hnb114 := NB472_485.out; have hnc114 := NB485_472.out; have hcz115_0 := bc_ BK472.out 0 (.int .i64 a4_0) rfl; have hcz115_1 := bc_ BK472.out 1 (.int .i64 a4_1) rfl; have hcz115_2 := bc_ BK472.out 2 (.slice A4_2 l4_2.length c4_2) rfl; have hfz115_0 := blk_frozen BK472.out 0; have hfz115_1 := blk_frozen BK472.out 1; have hfz115_2 := blk_frozen BK472.out 2; have hnb116 := NB485_470.out; have hnc116 := NB470_485.out; have hnb117 := NB485_471.out; have hnc117 := NB471_485.out; have hcz118_0 := bc_ BK485.out 0 (.int .i64 t482) rfl; have hcz118_1 := bc_ BK485.out 1 (.int .i64 t483) rfl; have hfz118_0 := blk_frozen BK485.out 0; have hfz118_1 := blk_frozen BK485.out 1
        go_wp2_with (first | ((with_reducible refine gate_callee (f := 51) rfl ?_); refine gl_ Try.func51 #[.agg #[.int .i64 a4_0, .int .i64 a4_1, .slice A4_2 l4_2.length c4_2], .int .i64 a5, .int .i64 t482, .int .i64 t483] ?_; (with_reducible refine (impl_InSlot.calls kj87 a4_0 a4_1 _ _ l4_2 a5 t482 t483 t486 t487 false _ ?side1 ?side2 A102.out).mono ?_); (case side1 => exact kc_ (Kd.C_below HR4_2.out HB.out)); (case side2 => exact HC4_2.out); rintro e w119 ⟨rfl, hb⟩; refine ⟨_, rfl, ?_⟩; replace BK470 := am_ (bb_ BK470.out hb); replace BK471 := am_ (bb_ BK471.out hb); replace BK472 := am_ (bb_ BK472.out hb); replace BK485 := am_ (bb_ BK485.out hb); replace HB := am_ (below_step (hb4_ HB.out GE470.out GE471.out GE472.out GE485.out) hb); (try clear hb); (try clear hb2); (try clear hk); (try clear hi)))
        go_ret3
        exact ⟨er_, hb4_ HB.out GE470.out GE471.out GE472.out GE485.out⟩
end Go.Proofs.Ytllpmpfchidhoaa.P

namespace Go.Proofs.Ytllpmpfchidhoaa.P
open Go.RowKit Go.Proofs.YtllpmpfchidhoaaW.PrintWords Go.Proofs.YtllpmpfchidhoaaW.PrintLast Go.Proofs.YtllpmpfchidhoaaW.PrintMore
attribute [local go_sem] max2_int min2_int max_two min_two max_three min_three max_four min_four
set_option linter.unusedVariables false
set_option linter.unusedSimpArgs false
def spec_l2Told.f (a0 : Int) : Option (Int × Bool) := if a0 > 1000000000000 then (some (0, false)) else (some (a0, true))
set_option maxHeartbeats 8000000 in
set_option maxRecDepth 100000 in
theorem spec_l2Told.calls (a0 : Int) (r1 : Int) (r2 : Bool) (w : World) (h : spec_l2Told.f a0 = some (r1, r2)) :
  Calls Try.prog 63 #[.int .i64 a0] w fun e w' => e = .returned (.tuple #[.int .i64 r1, .bool r2]) ∧ Drawn0 w w' := by
 have H : (if a0 > 1000000000000 then (some (0, false)) else (some (a0, true))) = some (r1, r2) := h; clear h; by_cases c2 : a0 > 1000000000000
 ·rw [if_pos c2] at H; have c2b0 : decide (1000000000000 < a0) = true := decide_eq_true c2; clear c2; simp only [Option.some.injEq, Prod.mk.injEq] at H
  obtain ⟨rfl, rfl⟩ := H; go_enter Try.func63, Try.ntmps63
  go_wp2
  go_ret2
  exact ⟨by first | rfl | (simp; done) | (simp [*]; done), by repeat (first | exact Drawn0.refl _ | apply Drawn0.step)⟩
 ·rw [if_neg c2] at H; have c2b0 : decide (1000000000000 < a0) = false := decide_eq_false c2; clear c2; simp only [Option.some.injEq, Prod.mk.injEq] at H
  obtain ⟨rfl, rfl⟩ := H; go_enter Try.func63, Try.ntmps63
  go_wp2
  go_ret2
  exact ⟨by first | rfl | (simp; done) | (simp [*]; done), by repeat (first | exact Drawn0.refl _ | apply Drawn0.step)⟩
end Go.Proofs.Ytllpmpfchidhoaa.P
