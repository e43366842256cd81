/- Texts of the seat's proofs, part 5: functions of the program told as plain functions, with their contracts, and what is shown of them. No condition. -/
import Derived.Test.YtllpmpfchidhoaaUKFNO
import Derived.Test.YtllpmpfchidhoaaKFNO1
import Derived.Test.YtllpmpfchidhoaaKFNO4
import Derived.Test.YtllpmpfchidhoaaKFNO3
import Derived.Lib.LazyBuf
set_option linter.unusedVariables false
set_option linter.unusedSimpArgs false
namespace Go.Proofs.Ytllpmpfchidhoaa.P
open Go.RowKit Go.Proofs.YtllpmpfchidhoaaW.PrintWords Go.Proofs.YtllpmpfchidhoaaW.PrintLast Go.Proofs.YtllpmpfchidhoaaW.PrintMore
attribute [local go_sem] max2_int min2_int max_two min_two max_three min_three max_four min_four
set_option linter.unusedVariables false
set_option linter.unusedSimpArgs false
mutual
def impl_NextOwn.j0 : Nat → Int → Int → Bool → Int → Int → List (S42) → Option (Int × Int × Bool)
 | 0, _, _, _, _, _, _ => none
 | k + 1, x1, x2, x22, x1020000, x1020001, x1020002 => if x22 = true then (some (0, 0, false)) else ((impl_Plan_round.f k x1020000 x1020001 x1020002).bind fun t1022 => (if t1022 = 0 then (none) else (impl_NextOwn.l0 k x1 x2 (wrap64 (Int.tdiv (mx 0 (wrap64 (x2 - x1020000))) t1022)) (wrap64 (Int.tdiv (mx 0 (wrap64 (x2 - x1020000))) t1022)) x1020000 x1020001 x1020002)))
def impl_NextOwn.l0 : Nat → Int → Int → Int → Int → Int → Int → List (S42) → Option (Int × Int × Bool)
 | 0, _, _, _, _, _, _, _ => none
 | k + 1, x1, x2, x9, x10, x1020000, x1020001, x1020002 => if x10 ≤ (wrap64 (x9 + 1)) then (impl_NextOwn.l1 k x1 x2 x9 x10 x1020002 (x1020002.length : Int) 0 x1020000 x1020001 x1020002) else (some (0, 0, false))
def impl_NextOwn.l1 : Nat → Int → Int → Int → Int → List (S42) → Int → Int → Int → Int → List (S42) → Option (Int × Int × Bool)
 | 0, _, _, _, _, _, _, _, _, _, _ => none
 | k + 1, x1, x2, x9, x10, x39, x40, x41, x1020000, x1020001, x1020002 => if x41 < x40 then (if 0 ≤ x41 then (if x41 < (x39.length : Int) then ((impl_Occurrence.f k x1020000 x1020001 x1020002 x41 x10).bind fun bt1025 => (if bt1025.2.2 = true then (if ((rd_T42 x39 x41).f0) = x1 then (if bt1025.1 ≥ x2 then (some (x41, bt1025.1, true)) else (impl_NextOwn.l1 k x1 x2 x9 x10 x39 x40 (wrap64 (x41 + 1)) x1020000 x1020001 x1020002)) else (impl_NextOwn.l1 k x1 x2 x9 x10 x39 x40 (wrap64 (x41 + 1)) x1020000 x1020001 x1020002)) else (impl_NextOwn.l1 k x1 x2 x9 x10 x39 x40 (wrap64 (x41 + 1)) x1020000 x1020001 x1020002))) else (none)) else (none)) else (impl_NextOwn.l0 k x1 x2 x9 (wrap64 (x10 + 1)) x1020000 x1020001 x1020002)
end
def impl_NextOwn.f (k : Nat) (a0_0 : Int) (a0_1 : Int) (l0_2 : List (S42)) (a1 : Int) (a2 : Int) : Option (Int × Int × Bool) := (impl_PlanOk.f k a0_0 a0_1 l0_2).bind fun t1020 => (if t1020 = true then ((impl_isTime.f a2).bind fun t1021 => (impl_NextOwn.j0 k a1 a2 (!t1021) a0_0 a0_1 l0_2)) else (impl_NextOwn.j0 k a1 a2 true a0_0 a0_1 l0_2))
def impl_NextOwn.T3 : Bool × List (List Nat × List Nat) := (true, [([], []), ([], []), ([1], [1]), ([0, 2], [0, 2]), ([3], [3]), ([], []), ([5], [5]), ([4, 6], [4, 6]), ([7, 6, 0, 1, 2, 3, 4, 5, 6, 7], [7])])
def impl_NextOwn.B3 : List Nat := [0, 0, 2, 7, 15, 0, 32, 127, 255]
theorem impl_NextOwn.tab3 : rtab .any (opsOf Try.f32 3) = impl_NextOwn.T3 := by kernel_rfl
theorem impl_NextOwn.bits3 : waitsOk impl_NextOwn.T3.2 impl_NextOwn.B3 = true := by kernel_rfl
set_option maxHeartbeats 8000000 in
set_option maxRecDepth 100000 in
theorem impl_NextOwn.calls (k : Nat) (a0_0 : Int) (a0_1 : Int) (A0_2 : Option Addr) (c0_2 : Nat) (l0_2 : List (S42)) (a1 : Int) (a2 : Int) (r1 : Int) (r2 : Int) (r3 : Bool) (w : World) (hr0_2 : Kd.C k42 w A0_2 l0_2.length l0_2) (hc0_2 : l0_2.length ≤ c0_2) (h : impl_NextOwn.f k a0_0 a0_1 l0_2 a1 a2 = some (r1, r2, r3)) :
  Calls Try.prog 32 #[.agg #[.int .i64 a0_0, .int .i64 a0_1, .slice A0_2 l0_2.length c0_2], .int .i64 a1, .int .i64 a2] w fun e w' => e = .returned (.tuple #[.int .i64 r1, .int .i64 r2, .bool r3]) ∧ Below w.heap.size w w' := by
 have hu30 := Try.underlying30; have hu42 := Try.underlying42; have hu25 := Try.underlying25; have HR0_2 := Aside0.mk hr0_2; have HC0_2 := Aside0.mk hc0_2; clear hr0_2 hc0_2; have HB := am_ (Below.refl w.heap.size w); have H : ((impl_PlanOk.f k a0_0 a0_1 l0_2).bind fun t1020 => (if t1020 = true then ((impl_isTime.f a2).bind fun t1021 => (impl_NextOwn.j0 k a1 a2 (!t1021) a0_0 a0_1 l0_2)) else (impl_NextOwn.j0 k a1 a2 true a0_0 a0_1 l0_2))) = some (r1, r2, r3) := h; clear h; have HC4 := Aside0.mk H; clear H; go_enter Try.func32, Try.ntmps32
 go_upto_region 1 with (first | ((with_reducible refine gate_dst (N := 3) rfl ?_); refine be_ (N := 3) (cs := #[.int .i64 a0_0, .int .i64 a0_1, .slice A0_2 l0_2.length c0_2]) (t := 30) ?_; intro gb1019 hg w5 hbox hb; have BK1019 := am_ (hbox); have GW1019 := am_ (hy_ hg (hb_ HB.out) : w.heap.size ≤ gb1019); have GE1019 := GW1019; replace HB := am_ (below_step (hb_ HB.out) hb); clear hb hbox hg))
 (try simp only [Act.put, List.setIfInBounds_toArray, List.set_cons_zero, List.set_cons_succ]); go_cut [22] (fun v22 wc => ∃ (kq : Nat) (x22_3 : Bool), v22 = .bool x22_3 ∧ Aside0 (impl_NextOwn.j0 kq a1 a2 x22_3 a0_0 a0_1 l0_2 = some (r1, r2, r3)) ∧ Aside0 (kq ≤ k) ∧ Aside0 (wc.heap[gb1019]? = some (.cells #[.int .i64 a0_0, .int .i64 a0_1, (.slice A0_2 l0_2.length c0_2)] 30 (0, 0))) ∧ Aside0 (Below w.heap.size w wc))
 case first =>
  have H := HC4.out; clear HC4; obtain ⟨t1020, A6, H⟩ := ab_ H; by_cases c7 : t1020 = true
  ·subst c7; replace H := i1_ H; obtain ⟨t1021, A8, H⟩ := ab_ H; have H' := Aside0.mk H; clear H; have hcz9_0 := bc_ BK1019.out 0 (.int .i64 a0_0) rfl; have hcz9_1 := bc_ BK1019.out 1 (.int .i64 a0_1) rfl; have hcz9_2 := bc_ BK1019.out 2 (.slice A0_2 l0_2.length c0_2) rfl; have hfz9_0 := blk_frozen BK1019.out 0; have hfz9_1 := blk_frozen BK1019.out 1; have hfz9_2 := blk_frozen BK1019.out 2; go_wp2_with (first | ((with_reducible refine gate_callee (f := 34) rfl ?_); refine gl_ Try.func34 #[.agg #[.int .i64 a0_0, .int .i64 a0_1, .slice A0_2 l0_2.length c0_2]] ?_; (with_reducible refine (impl_PlanOk.calls k a0_0 a0_1 _ _ l0_2 true _ ?side1 ?side2 A6.out).mono ?_); (case side1 => exact kc_ (Kd.C_below HR0_2.out HB.out)); (case side2 => exact HC0_2.out); rintro e w10 ⟨rfl, hb⟩; refine ⟨_, rfl, ?_⟩; replace BK1019 := am_ (bb_ BK1019.out hb); replace HB := am_ (below_step (hb1_ HB.out GE1019.out) hb); (try clear hb); (try clear hb2); (try clear hk); (try clear hi)) | (go_at_call 69; (with_reducible refine (impl_isTime.calls a2 t1021 _ A8.out).mono ?_); rintro e w' ⟨rfl, ⟨nd, rfl⟩⟩))
   go_meet
   case rel => exact ⟨_, (!t1021), (by first | rfl | (simp; done) | (simp [*]; done)), H', ⟨by first | omega | exact Nat.le_refl _⟩, ⟨bk_ BK1019.out⟩, ⟨hb1_ HB.out GE1019.out⟩⟩
  ·replace c7 := Bool.eq_false_iff.mpr c7; subst c7; replace H := i0_ H; have H' := Aside0.mk H; clear H; have hcz11_0 := bc_ BK1019.out 0 (.int .i64 a0_0) rfl; have hcz11_1 := bc_ BK1019.out 1 (.int .i64 a0_1) rfl; have hcz11_2 := bc_ BK1019.out 2 (.slice A0_2 l0_2.length c0_2) rfl; have hfz11_0 := blk_frozen BK1019.out 0; have hfz11_1 := blk_frozen BK1019.out 1; have hfz11_2 := blk_frozen BK1019.out 2; go_wp2_with (first | ((with_reducible refine gate_callee (f := 34) rfl ?_); refine gl_ Try.func34 #[.agg #[.int .i64 a0_0, .int .i64 a0_1, .slice A0_2 l0_2.length c0_2]] ?_; (with_reducible refine (impl_PlanOk.calls k a0_0 a0_1 _ _ l0_2 false _ ?side1 ?side2 A6.out).mono ?_); (case side1 => exact kc_ (Kd.C_below HR0_2.out HB.out)); (case side2 => exact HC0_2.out); rintro e w12 ⟨rfl, hb⟩; refine ⟨_, rfl, ?_⟩; replace BK1019 := am_ (bb_ BK1019.out hb); replace HB := am_ (below_step (hb1_ HB.out GE1019.out) hb); (try clear hb); (try clear hb2); (try clear hk); (try clear hi)))
   go_meet
   case rel => exact ⟨_, (true), (by first | rfl | (simp; done) | (simp [*]; done)), H', ⟨by first | omega | exact Nat.le_refl _⟩, ⟨bk_ BK1019.out⟩, ⟨hb1_ HB.out GE1019.out⟩⟩
 case rest =>
  clear HC4; (try clear c7); (try clear hcz11_0); (try clear hcz11_1); (try clear hcz11_2); (try clear hcz9_0); (try clear hcz9_1); (try clear hcz9_2); (try clear hfz11_0); (try clear hfz11_1); (try clear hfz11_2); (try clear hfz9_0); (try clear hfz9_1); (try clear hfz9_2); obtain ⟨kq, x22_3, rfl, HA, HJ3, BK1019, HB⟩ := hcut
  cases kq with
  | zero => exact absurd HA.out (by simp [impl_NextOwn.j0])
  | succ kj3 =>
   have H := HA.out; clear HA; simp only [impl_NextOwn.j0] at H
   by_cases c13 : x22_3 = true
   ·subst c13; replace H := i1_ H; simp only [Option.some.injEq, Prod.mk.injEq] at H
    obtain ⟨rfl, rfl, rfl⟩ := H; go_wp2
    go_ret3
    exact ⟨er_, hb1_ HB.out GE1019.out⟩
   ·replace c13 := Bool.eq_false_iff.mpr c13; subst c13; replace H := i0_ H; obtain ⟨ji14, hji14⟩ : ∃ j_ : Int, (mx 0 (wrap64 (a2 - a0_0))) = j_ := ⟨_, rfl⟩; replace H : ((impl_Plan_round.f kj3 a0_0 a0_1 l0_2).bind fun t1022 => (if t1022 = 0 then (none) else (impl_NextOwn.l0 kj3 a1 a2 (wrap64 (Int.tdiv (ji14) t1022)) (wrap64 (Int.tdiv (ji14) t1022)) a0_0 a0_1 l0_2))) = some (r1, r2, r3) := by first | (rw [hji14] at H; exact H) | (simp only [hji14] at H ⊢; exact H)
    have hji14_ : (if 0 < (wrap64 (a2 - a0_0)) then (wrap64 (a2 - a0_0)) else 0) = ji14 := hji14; obtain ⟨t1022, A15, H⟩ := ab_ H; by_cases c16 : t1022 = 0
    ·rw [if_pos c16] at H; exact absurd H (by simp)
    ·rw [if_neg c16] at H; have c16b0 : (t1022 == 0) = false := beq_eq_false_iff_ne.mpr c16; have c16b1 : (t1022 != 0) = true := bne_iff_ne.mpr c16; have H' := Aside0.mk H; clear H; try go_wp2
     have n0_ := am_ (blk_drew BK1019.out); have n1_ := am_ (below_drew1 HB.out); clear BK1019; clear HB; have BK1019 := n0_; have HB := n1_; clear n0_ n1_; refine start_ (n := 9) (S := fun w' => w'.cell? ⟨gb1019, 0, none⟩ = some (.int .i64 a0_0) ∧ w'.cell? ⟨gb1019, 1, none⟩ = some (.int .i64 a0_1) ∧ w'.cell? ⟨gb1019, 2, none⟩ = some (.slice A0_2 l0_2.length c0_2)) (ds := []) #[false, false, false, false, false, false, false, false, false] (by kernel_rfl) rfl rfl ⟨(blk_cell BK1019.out 0).trans rfl, (blk_cell BK1019.out 1).trans rfl, (blk_cell BK1019.out 2).trans rfl⟩ (fun hHeld => ?_); refine with_tabW impl_NextOwn.tab3 impl_NextOwn.bits3 (fun HT_ HW_ => ?_)
     generalize wc.drew = w17 at BK1019 HB hHeld ⊢
     refine pure_ (i := 0) (N := some 23) (v := ?_) (a' := ?_) #[true, false, false, false, false, false, false, false, false] rfl rfl (any_of HT_.out (by kernel_rfl)) (fun _ _ _ h => h) (Or.inl ⟨by rfl, ?_⟩) ?_ ?_
     rotate_left
     ·intro w'; go_simp
      with_reducible rfl
     rotate_left
     ·simp only [Act.put, List.setIfInBounds_toArray, List.set_cons_zero, List.set_cons_succ, i64_w, i32_w]
      rfl
     refine pure_ (i := 1) (N := some 24) (v := ?_) (a' := ?_) #[true, true, false, false, false, false, false, false, false] rfl rfl (any_of HT_.out (by kernel_rfl)) (fun _ _ _ h => h) (Or.inl ⟨by rfl, ?_⟩) ?_ ?_
     rotate_left
     ·intro w'; go_simp
      with_reducible rfl
     rotate_left
     ·simp only [Act.put, List.setIfInBounds_toArray, List.set_cons_zero, List.set_cons_succ, i64_w, i32_w]
      rfl
     refine take_ (i := 2) (N := some 25) (v := ?_) (a' := ?_) #[true, true, true, false, false, false, false, false, false] rfl rfl (take_ofW HT_.out HW_.out (by kernel_rfl)) (fun _ _ _ h => h) (Or.inl ⟨by rfl, ?_⟩) hHeld ?_ ?_
     rotate_left
     ·rintro w' ⟨s0, s1, s2⟩; go_simp
      with_reducible rfl
     rotate_left
     ·simp only [Act.put, List.setIfInBounds_toArray, List.set_cons_zero, List.set_cons_succ, i64_w, i32_w]
      rfl
     refine pure_ (i := 3) (N := some 26) (v := ?_) (a' := ?_) #[true, true, true, true, false, false, false, false, false] rfl rfl (any_of HT_.out (by kernel_rfl)) (fun _ _ _ h => h) (Or.inl ⟨by rfl, ?_⟩) ?_ ?_
     rotate_left
     ·intro w'; go_simp
      with_reducible rfl
     rotate_left
     ·simp only [Act.put, List.setIfInBounds_toArray, List.set_cons_zero, List.set_cons_succ, i64_w, i32_w]
      rfl
     refine pure_ (i := 4) (N := some 27) (v := ?_) (a' := ?_) #[true, true, true, true, true, false, false, false, false] rfl rfl (any_of HT_.out (by kernel_rfl)) (fun _ _ _ h => h) (Or.inl ⟨by rfl, ?_⟩) ?_ ?_
     rotate_left
     ·intro w'; go_simp
      with_reducible rfl
     rotate_left
     ·simp only [Act.put, List.setIfInBounds_toArray, List.set_cons_zero, List.set_cons_succ, i64_w, i32_w]
      rfl
     refine take_ (i := 5) (N := some 28) (v := ?_) (a' := ?_) #[true, true, true, true, true, true, false, false, false] rfl rfl (take_ofW HT_.out HW_.out (by kernel_rfl)) (fun _ _ _ h => h) (Or.inl ⟨by rfl, ?_⟩) hHeld ?_ ?_
     rotate_left
     ·rintro w' ⟨s0, s1, s2⟩; go_simp
      with_reducible rfl
     rotate_left
     ·simp only [Act.put, List.setIfInBounds_toArray, List.set_cons_zero, List.set_cons_succ, i64_w, i32_w]
      rfl
     refine one_ (i := 6) (N := some 29) #[true, true, true, true, true, true, true, false, false] rfl rfl (one_of HT_.out (by kernel_rfl)) (by decide) (fun K hK => ?_)
     refine goes_ Try.func59 (by kernel_rfl) rfl #[.agg #[.int .i64 a0_0, .int .i64 a0_1, .slice A0_2 l0_2.length c0_2]] (by rfl) rfl rfl arr_ ?_
     with_reducible refine (impl_Plan_round.calls kj3 a0_0 a0_1 _ _ l0_2 t1022 _ ?side1 ?side2 A15.out).mono ?_
     (case side1 => exact kc_ (Kd.C_below HR0_2.out HB.out))
     (case side2 => exact HC0_2.out)
     rintro e w18 ⟨rfl, hb⟩; refine ⟨_, rfl, ?_⟩
     have n0_ := am_ (bb_ BK1019.out hb); have n1_ := am_ (below_step (hb1_ HB.out GE1019.out) hb); clear BK1019; clear HB; have BK1019 := n0_; have HB := n1_; clear n0_ n1_; (try clear hb); (try clear hb2); (try clear hk); (try clear hi); refine hK.out _ _ ⟨(blk_cell BK1019.out 0).trans rfl, (blk_cell BK1019.out 1).trans rfl, (blk_cell BK1019.out 2).trans rfl⟩ (fun hHeld => ?_)
     clear hK K; refine norm_ (a' := ?_) ?_ ?_
     rotate_left
     ·show Act.put _ (some 29) _ = _
      simp only [Act.put, List.setIfInBounds_toArray, List.set_cons_zero, List.set_cons_succ, i64_w, i32_w]
      rfl
     refine pure_ (i := 7) (N := some 30) (v := ?_) (a' := ?_) #[true, true, true, true, true, true, true, true, false] rfl rfl (any_of HT_.out (by kernel_rfl)) (fun _ _ _ h => h) (Or.inl ⟨by rfl, ?_⟩) ?_ ?_
     rotate_left
     ·intro w'; go_simp
      with_reducible rfl
     rotate_left
     ·simp only [Act.put, List.setIfInBounds_toArray, List.set_cons_zero, List.set_cons_succ, i64_w, i32_w]
      rfl
     refine pure_ (i := 8) (N := some 9) (v := ?_) (a' := ?_) #[true, true, true, true, true, true, true, true, true] rfl rfl (any_of HT_.out (by kernel_rfl)) (fun _ _ _ h => h) (Or.inl ⟨by rfl, ?_⟩) ?_ ?_
     rotate_left
     ·intro w'; go_simp
      with_reducible rfl
     rotate_left
     ·simp only [Act.put, List.setIfInBounds_toArray, List.set_cons_zero, List.set_cons_succ, i64_w, i32_w]
      rfl
     refine done_ (done_of HT_.out (by kernel_rfl)) ?_
     try go_wp2
     go_loopg [10] kj3 (fun kq v10 w' => ∃ (x10_2 : Int), v10 = .int .i64 x10_2 ∧ Aside0 (impl_NextOwn.l0 kq a1 a2 (wrap64 (Int.tdiv (ji14) t1022)) x10_2 a0_0 a0_1 l0_2 = some (r1, r2, r3)) ∧ Aside0 (kq ≤ kj3) ∧ Aside0 (w'.heap[gb1019]? = some (.cells #[.int .i64 a0_0, .int .i64 a0_1, (.slice A0_2 l0_2.length c0_2)] 30 (0, 0))) ∧ Aside0 (Below w.heap.size w w'))
     case atStart => exact ⟨(wrap64 (Int.tdiv (ji14) t1022)), (by first | rfl | (simp; done) | (simp only [← hji14] <;> (first | rfl | simp)) | (simp [*]; done)), H', ⟨Nat.le_refl _⟩, ⟨bk_ BK1019.out⟩, ⟨hb1_ HB.out GE1019.out⟩⟩
     case round =>
      clear H'; (try clear c7); (try clear c13); (try clear c16); (try clear c16b0); (try clear c16b1); (try clear hcz11_0); (try clear hcz11_1); (try clear hcz11_2); (try clear hcz9_0); (try clear hcz9_1); (try clear hcz9_2); (try clear hfz11_0); (try clear hfz11_1); (try clear hfz11_2); (try clear hfz9_0); (try clear hfz9_1); (try clear hfz9_2); obtain ⟨x10_2, rfl, HA, HK2, BK1019, HB⟩ := hrel
      cases gk with
      | zero => exact absurd HA.out (by simp [impl_NextOwn.l0])
      | succ k2 =>
       have H := HA.out; clear HA; simp only [impl_NextOwn.l0] at H
       by_cases c19 : x10_2 ≤ (wrap64 ((wrap64 (Int.tdiv (ji14) t1022)) + 1))
       ·rw [if_pos c19] at H; have c19b0 : decide (x10_2 ≤ (wrap64 ((wrap64 (Int.tdiv (ji14) t1022)) + 1))) = true := decide_eq_true c19; clear c19; have H' := Aside0.mk H; clear H; have hcz20_0 := bc_ BK1019.out 0 (.int .i64 a0_0) rfl; have hcz20_1 := bc_ BK1019.out 1 (.int .i64 a0_1) rfl; have hcz20_2 := bc_ BK1019.out 2 (.slice A0_2 l0_2.length c0_2) rfl; have hfz20_0 := blk_frozen BK1019.out 0; have hfz20_1 := blk_frozen BK1019.out 1; have hfz20_2 := blk_frozen BK1019.out 2; go_wp2
        go_loopg [41] k2 (fun kq v41 w' => ∃ (x41_3 : Int), v41 = .int .i64 x41_3 ∧ Aside0 (impl_NextOwn.l1 kq a1 a2 (wrap64 (Int.tdiv (ji14) t1022)) x10_2 l0_2 (l0_2.length : Int) x41_3 a0_0 a0_1 l0_2 = some (r1, r2, r3)) ∧ Aside0 (kq ≤ k2) ∧ Aside0 (w'.heap[gb1019]? = some (.cells #[.int .i64 a0_0, .int .i64 a0_1, (.slice A0_2 l0_2.length c0_2)] 30 (0, 0))) ∧ Aside0 (Below w.heap.size w w'))
        case atStart => exact ⟨(0), (by first | rfl | (simp; done) | (simp [*]; done)), H', ⟨Nat.le_refl _⟩, ⟨bk_ BK1019.out⟩, ⟨hb1_ HB.out GE1019.out⟩⟩
        case round =>
         clear H'; (try clear c7); (try clear c13); (try clear c16); (try clear c16b0); (try clear c16b1); (try clear c19); (try clear c19b0); (try clear hcz11_0); (try clear hcz11_1); (try clear hcz11_2); (try clear hcz20_0); (try clear hcz20_1); (try clear hcz20_2); (try clear hcz9_0); (try clear hcz9_1); (try clear hcz9_2); (try clear hfz11_0); (try clear hfz11_1); (try clear hfz11_2); (try clear hfz20_0); (try clear hfz20_1); (try clear hfz20_2); (try clear hfz9_0); (try clear hfz9_1); (try clear hfz9_2); obtain ⟨x41_3, rfl, HA, HK3, BK1019, HB⟩ := hrel
         cases gk with
         | zero => exact absurd HA.out (by simp [impl_NextOwn.l1])
         | succ k3 =>
          have H := HA.out; clear HA; simp only [impl_NextOwn.l1] at H
          by_cases c21 : x41_3 < (l0_2.length : Int)
          ·rw [if_pos c21] at H; have c21b0 : decide (x41_3 < (l0_2.length : Int)) = true := decide_eq_true c21; clear c21; by_cases c22 : 0 ≤ x41_3
           ·rw [if_pos c22] at H; have c22b0 : decide (0 ≤ x41_3) = true := decide_eq_true c22; clear c22; by_cases c23 : x41_3 < (l0_2.length : Int)
            ·rw [if_pos c23] at H; have c23b0 : decide (x41_3 < (l0_2.length : Int)) = true := decide_eq_true c23; clear c23; obtain ⟨⟨t1025, t1026, t1027⟩, A24, H⟩ := ab_ H; (try dsimp only at H); by_cases c25 : t1027 = true
             ·subst c25; replace H := i1_ H; by_cases c26 : ((rd_T42 l0_2 x41_3).f0) = a1
              ·rw [if_pos c26] at H; have c26b0 : (((rd_T42 l0_2 x41_3).f0) == a1) = true := beq_iff_eq.mpr c26; have c26b1 : (((rd_T42 l0_2 x41_3).f0) != a1) = false := bne_eq_false_iff_eq.mpr c26; clear c26; by_cases c27 : t1025 ≥ a2
               ·rw [if_pos c27] at H; have c27b0 : decide (a2 ≤ t1025) = true := decide_eq_true c27; clear c27; simp only [Option.some.injEq, Prod.mk.injEq] at H
                obtain ⟨rfl, rfl, rfl⟩ := H; have p1023 : 0 ≤ (x41_3 : Int) := of_decide_eq_true (by first | (with_reducible assumption) | assumption); have q1023 : x41_3 < (l0_2.length : Int) := of_decide_eq_true (by first | (with_reducible assumption) | assumption); obtain ⟨ad1023, e1023, hx1023_0, hx1023_1⟩ := at_T42 HR0_2.out x41_3 p1023 q1023
                cases e1023
                replace hx1023_0 := (HB.out.cell (World.block_lt_of_cell? w _ hx1023_0)).trans hx1023_0; replace hx1023_1 := (HB.out.cell (World.block_lt_of_cell? w _ hx1023_1)).trans hx1023_1; replace p1023 := eq_true p1023; replace q1023 := eq_true q1023
                try go_wp2_with (first | ((with_reducible refine gate_dst (N := 12) rfl ?_); refine be_ (N := 12) (cs := #[.int .i64 0, .int .i64 0]) (t := 42) ?_; intro gb1024 hg w28 hbox hb; have BK1024 := am_ (hbox); have GW1024 := am_ (hy_ hg (hb1_ HB.out GE1019.out) : w.heap.size ≤ gb1024); have GE1024 := GW1024; have NB1019_1024 := am_ (bl_ hg BK1019.out : gb1019 ≠ gb1024); have NB1024_1019 := nb_ NB1019_1024; replace BK1019 := am_ (bb_ BK1019.out hb); replace HB := am_ (below_step (hb1_ HB.out GE1019.out) hb); clear hb hbox hg; have hnb29 := NB1024_1019.out; have hnc29 := NB1019_1024.out; obtain ⟨hcz30_0, hcz30_1, hfz30_0, hfz30_1⟩ := bc2_ BK1024.out; have hcz31_0 := bc_ BK1019.out 0 (.int .i64 a0_0) rfl; have hcz31_1 := bc_ BK1019.out 1 (.int .i64 a0_1) rfl; have hcz31_2 : w28.cell? ⟨gb1019, 2, none⟩ = some (.slice (some ad1023) l0_2.length c0_2) := (blk_cell BK1019.out 2).trans rfl; have hfz31_0 := blk_frozen BK1019.out 0; have hfz31_1 := blk_frozen BK1019.out 1; have hfz31_2 := blk_frozen BK1019.out 2) | ((with_reducible refine gate_callee (f := 12) rfl ?_); refine gl_ Try.func12 #[.agg #[.int .i64 a0_0, .int .i64 a0_1, .slice (some ad1023) l0_2.length c0_2], .int .i64 x41_3, .int .i64 x10_2] ?_; (with_reducible refine (impl_Occurrence.calls k3 a0_0 a0_1 _ _ l0_2 x41_3 x10_2 t1025 t1026 true _ ?side1 ?side2 A24.out).mono ?_); (case side1 => exact Kd.C_below HR0_2.out (hb2_ HB.out GE1019.out GE1024.out)); (case side2 => exact HC0_2.out); rintro e w32 ⟨rfl, hb⟩; refine ⟨_, rfl, ?_⟩; replace BK1019 := am_ (blk_below (g := gb1019) (o := .cells #[.int .i64 a0_0, .int .i64 a0_1, .slice (some ad1023) l0_2.length c0_2] 30 (0, 0)) (by (with_reducible repeat (first | refine blk_drewN ?_ _ | refine blk_drew ?_ | refine blk_alloc ?_ _)); refine blk_far ?_ NB1019_1024.out _; (with_reducible repeat (first | refine blk_drewN ?_ _ | refine blk_drew ?_ | refine blk_alloc ?_ _)); refine blk_far ?_ NB1019_1024.out _; (with_reducible repeat (first | refine blk_drewN ?_ _ | refine blk_drew ?_ | refine blk_alloc ?_ _)); exact BK1019.out) hb); replace BK1024 := am_ (blk_below (g := gb1024) (o := .cells #[.int .i64 ((rd_T42 l0_2 x41_3).f0), .int .i64 ((rd_T42 l0_2 x41_3).f1)] 42 (0, 0)) (by (with_reducible repeat (first | refine blk_drewN ?_ _ | refine blk_drew ?_ | refine blk_alloc ?_ _)); refine blk_put (cs := #[.int .i64 ((rd_T42 l0_2 x41_3).f0), .int .i64 0]) ?_ 1 _ rfl; (with_reducible repeat (first | refine blk_drewN ?_ _ | refine blk_drew ?_ | refine blk_alloc ?_ _)); refine blk_put (cs := #[.int .i64 0, .int .i64 0]) ?_ 0 _ rfl; (with_reducible repeat (first | refine blk_drewN ?_ _ | refine blk_drew ?_ | refine blk_alloc ?_ _)); exact BK1024.out) hb); replace HB := am_ (below_step (hb2_ HB.out GE1019.out GE1024.out) hb); (try clear hb); (try clear hb2); (try clear hk); (try clear hi)) | ((with_reducible refine gate_dst (N := 13) rfl ?_); refine be_ (N := 13) (cs := #[.int .i64 0, .int .i64 0]) (t := 25) ?_; intro gb1028 hg w33 hbox hb; have BK1028 := am_ (hbox); have GW1028 := am_ (hy_ hg (hb2_ HB.out GE1019.out GE1024.out) : w.heap.size ≤ gb1028); have GE1028 := GW1028; have NB1019_1028 := am_ (bl_ hg BK1019.out : gb1019 ≠ gb1028); have NB1028_1019 := nb_ NB1019_1028; have NB1024_1028 := am_ (bl_ hg BK1024.out : gb1024 ≠ gb1028); have NB1028_1024 := nb_ NB1024_1028; replace BK1019 := am_ (bb_ BK1019.out hb); replace BK1024 := am_ (bb_ BK1024.out hb); replace HB := am_ (below_step (hb2_ HB.out GE1019.out GE1024.out) hb); clear hb hbox hg; have hnb34 := NB1028_1019.out; have hnc34 := NB1019_1028.out; have hnb35 := NB1028_1024.out; have hnc35 := NB1024_1028.out; obtain ⟨hcz36_0, hcz36_1, hfz36_0, hfz36_1⟩ := bc2_ BK1028.out; have hcz37_0 : w33.cell? ⟨gb1024, 0, none⟩ = some (.int .i64 ((rd_T42 l0_2 x41_3).f0)) := (blk_cell BK1024.out 0).trans rfl; have hcz37_1 : w33.cell? ⟨gb1024, 1, none⟩ = some (.int .i64 ((rd_T42 l0_2 x41_3).f1)) := (blk_cell BK1024.out 1).trans rfl; have hfz37_0 := blk_frozen BK1024.out 0; have hfz37_1 := blk_frozen BK1024.out 1))
                have n0_ : Aside0 (((w33.setCell ⟨gb1028, 0, none⟩ (.int .i64 t1025)).setCell ⟨gb1028, 1, none⟩ (.int .i64 t1026)).heap[gb1019]? = some (.cells #[.int .i64 a0_0, .int .i64 a0_1, .slice (some ad1023) l0_2.length c0_2] 30 (0, 0))) := ⟨by (with_reducible repeat (first | refine blk_drewN ?_ _ | refine blk_drew ?_ | refine blk_alloc ?_ _)); refine blk_far ?_ NB1019_1028.out _; (with_reducible repeat (first | refine blk_drewN ?_ _ | refine blk_drew ?_ | refine blk_alloc ?_ _)); refine blk_far ?_ NB1019_1028.out _; (with_reducible repeat (first | refine blk_drewN ?_ _ | refine blk_drew ?_ | refine blk_alloc ?_ _)); exact BK1019.out⟩; have n1_ : Aside0 (((w33.setCell ⟨gb1028, 0, none⟩ (.int .i64 t1025)).setCell ⟨gb1028, 1, none⟩ (.int .i64 t1026)).heap[gb1024]? = some (.cells #[.int .i64 ((rd_T42 l0_2 x41_3).f0), .int .i64 ((rd_T42 l0_2 x41_3).f1)] 42 (0, 0))) := ⟨by (with_reducible repeat (first | refine blk_drewN ?_ _ | refine blk_drew ?_ | refine blk_alloc ?_ _)); refine blk_far ?_ NB1024_1028.out _; (with_reducible repeat (first | refine blk_drewN ?_ _ | refine blk_drew ?_ | refine blk_alloc ?_ _)); refine blk_far ?_ NB1024_1028.out _; (with_reducible repeat (first | refine blk_drewN ?_ _ | refine blk_drew ?_ | refine blk_alloc ?_ _)); exact BK1024.out⟩
                have n2_ : Aside0 (((w33.setCell ⟨gb1028, 0, none⟩ (.int .i64 t1025)).setCell ⟨gb1028, 1, none⟩ (.int .i64 t1026)).heap[gb1028]? = some (.cells #[.int .i64 t1025, .int .i64 t1026] 25 (0, 0))) := ⟨by (with_reducible repeat (first | refine blk_drewN ?_ _ | refine blk_drew ?_ | refine blk_alloc ?_ _)); refine blk_put (cs := #[.int .i64 t1025, .int .i64 0]) ?_ 1 _ rfl; (with_reducible repeat (first | refine blk_drewN ?_ _ | refine blk_drew ?_ | refine blk_alloc ?_ _)); refine blk_put (cs := #[.int .i64 0, .int .i64 0]) ?_ 0 _ rfl; (with_reducible repeat (first | refine blk_drewN ?_ _ | refine blk_drew ?_ | refine blk_alloc ?_ _)); exact BK1028.out⟩; have n3_ : Aside0 (Below w.heap.size w ((w33.setCell ⟨gb1028, 0, none⟩ (.int .i64 t1025)).setCell ⟨gb1028, 1, none⟩ (.int .i64 t1026))) := ⟨hb3_ HB.out GE1019.out GE1024.out GE1028.out⟩; (try clear BK1019); (try clear BK1024); (try clear BK1028); (try clear HB); generalize ((w33.setCell ⟨gb1028, 0, none⟩ (.int .i64 t1025)).setCell ⟨gb1028, 1, none⟩ (.int .i64 t1026)) = w38 at n0_ n1_ n2_ n3_ ⊢
                have BK1019 := n0_; have BK1024 := n1_; have BK1028 := n2_; have HB := n3_; clear n0_ n1_ n2_ n3_; have n0_ := am_ (blk_drew BK1019.out); have n1_ := am_ (blk_drew BK1024.out); have n2_ := am_ (blk_drew BK1028.out); have n3_ := am_ (below_drew1 HB.out); clear BK1019; clear BK1024; clear BK1028; clear HB; have BK1019 := n0_; have BK1024 := n1_; have BK1028 := n2_; have HB := n3_; clear n0_ n1_ n2_ n3_; refine start_ (n := 6) (S := fun w' => w'.cell? ⟨gb1028, 0, none⟩ = some (.int .i64 t1025) ∧ w'.cell? ⟨gb1028, 1, none⟩ = some (.int .i64 t1026)) (ds := []) #[false, false, false, false, false, false] (by kernel_rfl) rfl rfl ⟨(blk_cell BK1028.out 0).trans rfl, (blk_cell BK1028.out 1).trans rfl⟩ (fun hHeld => ?_)
                generalize w38.drew = w39 at BK1019 BK1024 BK1028 HB hHeld ⊢
                refine pure_ (i := 0) (N := some 66) (v := ?_) (a' := ?_) #[true, false, false, false, false, false] rfl rfl (by kernel_rfl) (fun _ _ _ h => h) (Or.inl ⟨by rfl, ?_⟩) ?_ ?_
                rotate_left
                ·intro w'; go_simp
                 with_reducible rfl
                rotate_left
                ·simp only [Act.put, List.setIfInBounds_toArray, List.set_cons_zero, List.set_cons_succ, i64_w, i32_w]
                 rfl
                refine pure_ (i := 1) (N := some 67) (v := ?_) (a' := ?_) #[true, true, false, false, false, false] rfl rfl (by kernel_rfl) (fun _ _ _ h => h) (Or.inl ⟨by rfl, ?_⟩) ?_ ?_
                rotate_left
                ·intro w'; go_simp
                 with_reducible rfl
                rotate_left
                ·simp only [Act.put, List.setIfInBounds_toArray, List.set_cons_zero, List.set_cons_succ, i64_w, i32_w]
                 rfl
                refine pure_ (i := 3) (N := some 6) (v := ?_) (a' := ?_) #[true, true, false, true, false, false] rfl rfl (by kernel_rfl) (fun _ _ _ h => h) (Or.inl ⟨by rfl, ?_⟩) ?_ ?_
                rotate_left
                ·intro w'; go_simp
                 with_reducible rfl
                rotate_left
                ·simp only [Act.put, List.setIfInBounds_toArray, List.set_cons_zero, List.set_cons_succ, i64_w, i32_w]
                 rfl
                refine take_ (i := 2) (N := some 68) (v := ?_) (a' := ?_) #[true, true, true, true, false, false] rfl rfl (by kernel_rfl) (fun _ _ _ h => h) (Or.inl ⟨by rfl, ?_⟩) hHeld ?_ ?_
                rotate_left
                ·rintro w' ⟨s0, s1⟩; go_simp
                 with_reducible rfl
                rotate_left
                ·simp only [Act.put, List.setIfInBounds_toArray, List.set_cons_zero, List.set_cons_succ, i64_w, i32_w]
                 rfl
                refine pure_ (i := 4) (N := some 7) (v := ?_) (a' := ?_) #[true, true, true, true, true, false] rfl rfl (by kernel_rfl) (fun _ _ _ h => h) (Or.inl ⟨by rfl, ?_⟩) ?_ ?_
                rotate_left
                ·intro w'; go_simp
                 with_reducible rfl
                rotate_left
                ·simp only [Act.put, List.setIfInBounds_toArray, List.set_cons_zero, List.set_cons_succ, i64_w, i32_w]
                 rfl
                refine pure_ (i := 5) (N := some 8) (v := ?_) (a' := ?_) #[true, true, true, true, true, true] rfl rfl (by kernel_rfl) (fun _ _ _ h => h) (Or.inl ⟨by rfl, ?_⟩) ?_ ?_
                rotate_left
                ·intro w'; go_simp
                 with_reducible rfl
                rotate_left
                ·simp only [Act.put, List.setIfInBounds_toArray, List.set_cons_zero, List.set_cons_succ, i64_w, i32_w]
                 rfl
                refine done_ (by kernel_rfl) ?_
                try go_wp2
                go_ret3
                exact ⟨by first | rfl | (simp [errW_none, errW_some] <;> rfl) | (simp only [← hji14]; first | rfl | (simp [errW_none, errW_some] <;> rfl)) | (simp [*, errW_none, errW_some] <;> rfl), hb3_ HB.out GE1019.out GE1024.out GE1028.out⟩
               ·rw [if_neg c27] at H; have c27b0 : decide (a2 ≤ t1025) = false := decide_eq_false c27; clear c27; have H' := Aside0.mk H; clear H; have p1023 : 0 ≤ (x41_3 : Int) := of_decide_eq_true (by first | (with_reducible assumption) | assumption); have q1023 : x41_3 < (l0_2.length : Int) := of_decide_eq_true (by first | (with_reducible assumption) | assumption); obtain ⟨ad1023, e1023, hx1023_0, hx1023_1⟩ := at_T42 HR0_2.out x41_3 p1023 q1023
                cases e1023
                replace hx1023_0 := (HB.out.cell (World.block_lt_of_cell? w _ hx1023_0)).trans hx1023_0; replace hx1023_1 := (HB.out.cell (World.block_lt_of_cell? w _ hx1023_1)).trans hx1023_1; replace p1023 := eq_true p1023; replace q1023 := eq_true q1023
                go_wp2_with (first | ((with_reducible refine gate_dst (N := 12) rfl ?_); refine be_ (N := 12) (cs := #[.int .i64 0, .int .i64 0]) (t := 42) ?_; intro gb1024 hg w40 hbox hb; have BK1024 := am_ (hbox); have GW1024 := am_ (hy_ hg (hb1_ HB.out GE1019.out) : w.heap.size ≤ gb1024); have GE1024 := GW1024; have NB1019_1024 := am_ (bl_ hg BK1019.out : gb1019 ≠ gb1024); have NB1024_1019 := nb_ NB1019_1024; replace BK1019 := am_ (bb_ BK1019.out hb); replace HB := am_ (below_step (hb1_ HB.out GE1019.out) hb); clear hb hbox hg; have hnb41 := NB1024_1019.out; have hnc41 := NB1019_1024.out; obtain ⟨hcz42_0, hcz42_1, hfz42_0, hfz42_1⟩ := bc2_ BK1024.out; have hcz43_0 := bc_ BK1019.out 0 (.int .i64 a0_0) rfl; have hcz43_1 := bc_ BK1019.out 1 (.int .i64 a0_1) rfl; have hcz43_2 : w40.cell? ⟨gb1019, 2, none⟩ = some (.slice (some ad1023) l0_2.length c0_2) := (blk_cell BK1019.out 2).trans rfl; have hfz43_0 := blk_frozen BK1019.out 0; have hfz43_1 := blk_frozen BK1019.out 1; have hfz43_2 := blk_frozen BK1019.out 2) | ((with_reducible refine gate_callee (f := 12) rfl ?_); refine gl_ Try.func12 #[.agg #[.int .i64 a0_0, .int .i64 a0_1, .slice (some ad1023) l0_2.length c0_2], .int .i64 x41_3, .int .i64 x10_2] ?_; (with_reducible refine (impl_Occurrence.calls k3 a0_0 a0_1 _ _ l0_2 x41_3 x10_2 t1025 t1026 true _ ?side1 ?side2 A24.out).mono ?_); (case side1 => exact Kd.C_below HR0_2.out (hb2_ HB.out GE1019.out GE1024.out)); (case side2 => exact HC0_2.out); rintro e w44 ⟨rfl, hb⟩; refine ⟨_, rfl, ?_⟩; replace BK1019 := am_ (blk_below (g := gb1019) (o := .cells #[.int .i64 a0_0, .int .i64 a0_1, .slice (some ad1023) l0_2.length c0_2] 30 (0, 0)) (by (with_reducible repeat (first | refine blk_drewN ?_ _ | refine blk_drew ?_ | refine blk_alloc ?_ _)); refine blk_far ?_ NB1019_1024.out _; (with_reducible repeat (first | refine blk_drewN ?_ _ | refine blk_drew ?_ | refine blk_alloc ?_ _)); refine blk_far ?_ NB1019_1024.out _; (with_reducible repeat (first | refine blk_drewN ?_ _ | refine blk_drew ?_ | refine blk_alloc ?_ _)); exact BK1019.out) hb); replace BK1024 := am_ (blk_below (g := gb1024) (o := .cells #[.int .i64 ((rd_T42 l0_2 x41_3).f0), .int .i64 ((rd_T42 l0_2 x41_3).f1)] 42 (0, 0)) (by (with_reducible repeat (first | refine blk_drewN ?_ _ | refine blk_drew ?_ | refine blk_alloc ?_ _)); refine blk_put (cs := #[.int .i64 ((rd_T42 l0_2 x41_3).f0), .int .i64 0]) ?_ 1 _ rfl; (with_reducible repeat (first | refine blk_drewN ?_ _ | refine blk_drew ?_ | refine blk_alloc ?_ _)); refine blk_put (cs := #[.int .i64 0, .int .i64 0]) ?_ 0 _ rfl; (with_reducible repeat (first | refine blk_drewN ?_ _ | refine blk_drew ?_ | refine blk_alloc ?_ _)); exact BK1024.out) hb); replace HB := am_ (below_step (hb2_ HB.out GE1019.out GE1024.out) hb); (try clear hb); (try clear hb2); (try clear hk); (try clear hi)) | ((with_reducible refine gate_dst (N := 13) rfl ?_); refine be_ (N := 13) (cs := #[.int .i64 0, .int .i64 0]) (t := 25) ?_; intro gb1028 hg w45 hbox hb; have BK1028 := am_ (hbox); have GW1028 := am_ (hy_ hg (hb2_ HB.out GE1019.out GE1024.out) : w.heap.size ≤ gb1028); have GE1028 := GW1028; have NB1019_1028 := am_ (bl_ hg BK1019.out : gb1019 ≠ gb1028); have NB1028_1019 := nb_ NB1019_1028; have NB1024_1028 := am_ (bl_ hg BK1024.out : gb1024 ≠ gb1028); have NB1028_1024 := nb_ NB1024_1028; replace BK1019 := am_ (bb_ BK1019.out hb); replace BK1024 := am_ (bb_ BK1024.out hb); replace HB := am_ (below_step (hb2_ HB.out GE1019.out GE1024.out) hb); clear hb hbox hg; have hnb46 := NB1028_1019.out; have hnc46 := NB1019_1028.out; have hnb47 := NB1028_1024.out; have hnc47 := NB1024_1028.out; obtain ⟨hcz48_0, hcz48_1, hfz48_0, hfz48_1⟩ := bc2_ BK1028.out; have hcz49_0 : w45.cell? ⟨gb1024, 0, none⟩ = some (.int .i64 ((rd_T42 l0_2 x41_3).f0)) := (blk_cell BK1024.out 0).trans rfl; have hcz49_1 : w45.cell? ⟨gb1024, 1, none⟩ = some (.int .i64 ((rd_T42 l0_2 x41_3).f1)) := (blk_cell BK1024.out 1).trans rfl; have hfz49_0 := blk_frozen BK1024.out 0; have hfz49_1 := blk_frozen BK1024.out 1))
                go_roundg k3
                case measure => have := HJ3.out; have := HK2.out; have := HK3.out; omega
                case rel => exact ⟨(wrap64 (x41_3 + 1)), (by first | rfl | (simp; done) | (simp [*]; done)), H', ⟨by have := HJ3.out; have := HK2.out; have := HK3.out; omega⟩, ⟨by (with_reducible repeat (first | refine blk_drewN ?_ _ | refine blk_drew ?_ | refine blk_alloc ?_ _)); refine blk_far ?_ NB1019_1028.out _; (with_reducible repeat (first | refine blk_drewN ?_ _ | refine blk_drew ?_ | refine blk_alloc ?_ _)); refine blk_far ?_ NB1019_1028.out _; (with_reducible repeat (first | refine blk_drewN ?_ _ | refine blk_drew ?_ | refine blk_alloc ?_ _)); exact BK1019.out⟩, ⟨hb3_ HB.out GE1019.out GE1024.out GE1028.out⟩⟩
              ·rw [if_neg c26] at H; have c26b0 : (((rd_T42 l0_2 x41_3).f0) == a1) = false := beq_eq_false_iff_ne.mpr c26; have c26b1 : (((rd_T42 l0_2 x41_3).f0) != a1) = true := bne_iff_ne.mpr c26; have H' := Aside0.mk H; clear H; have p1023 : 0 ≤ (x41_3 : Int) := of_decide_eq_true (by first | (with_reducible assumption) | assumption); have q1023 : x41_3 < (l0_2.length : Int) := of_decide_eq_true (by first | (with_reducible assumption) | assumption); obtain ⟨ad1023, e1023, hx1023_0, hx1023_1⟩ := at_T42 HR0_2.out x41_3 p1023 q1023
               cases e1023
               replace hx1023_0 := (HB.out.cell (World.block_lt_of_cell? w _ hx1023_0)).trans hx1023_0; replace hx1023_1 := (HB.out.cell (World.block_lt_of_cell? w _ hx1023_1)).trans hx1023_1; replace p1023 := eq_true p1023; replace q1023 := eq_true q1023
               go_wp2_with (first | ((with_reducible refine gate_dst (N := 12) rfl ?_); refine be_ (N := 12) (cs := #[.int .i64 0, .int .i64 0]) (t := 42) ?_; intro gb1024 hg w50 hbox hb; have BK1024 := am_ (hbox); have GW1024 := am_ (hy_ hg (hb1_ HB.out GE1019.out) : w.heap.size ≤ gb1024); have GE1024 := GW1024; have NB1019_1024 := am_ (bl_ hg BK1019.out : gb1019 ≠ gb1024); have NB1024_1019 := nb_ NB1019_1024; replace BK1019 := am_ (bb_ BK1019.out hb); replace HB := am_ (below_step (hb1_ HB.out GE1019.out) hb); clear hb hbox hg; have hnb51 := NB1024_1019.out; have hnc51 := NB1019_1024.out; obtain ⟨hcz52_0, hcz52_1, hfz52_0, hfz52_1⟩ := bc2_ BK1024.out; have hcz53_0 := bc_ BK1019.out 0 (.int .i64 a0_0) rfl; have hcz53_1 := bc_ BK1019.out 1 (.int .i64 a0_1) rfl; have hcz53_2 : w50.cell? ⟨gb1019, 2, none⟩ = some (.slice (some ad1023) l0_2.length c0_2) := (blk_cell BK1019.out 2).trans rfl; have hfz53_0 := blk_frozen BK1019.out 0; have hfz53_1 := blk_frozen BK1019.out 1; have hfz53_2 := blk_frozen BK1019.out 2) | ((with_reducible refine gate_callee (f := 12) rfl ?_); refine gl_ Try.func12 #[.agg #[.int .i64 a0_0, .int .i64 a0_1, .slice (some ad1023) l0_2.length c0_2], .int .i64 x41_3, .int .i64 x10_2] ?_; (with_reducible refine (impl_Occurrence.calls k3 a0_0 a0_1 _ _ l0_2 x41_3 x10_2 t1025 t1026 true _ ?side1 ?side2 A24.out).mono ?_); (case side1 => exact Kd.C_below HR0_2.out (hb2_ HB.out GE1019.out GE1024.out)); (case side2 => exact HC0_2.out); rintro e w54 ⟨rfl, hb⟩; refine ⟨_, rfl, ?_⟩; replace BK1019 := am_ (blk_below (g := gb1019) (o := .cells #[.int .i64 a0_0, .int .i64 a0_1, .slice (some ad1023) l0_2.length c0_2] 30 (0, 0)) (by (with_reducible repeat (first | refine blk_drewN ?_ _ | refine blk_drew ?_ | refine blk_alloc ?_ _)); refine blk_far ?_ NB1019_1024.out _; (with_reducible repeat (first | refine blk_drewN ?_ _ | refine blk_drew ?_ | refine blk_alloc ?_ _)); refine blk_far ?_ NB1019_1024.out _; (with_reducible repeat (first | refine blk_drewN ?_ _ | refine blk_drew ?_ | refine blk_alloc ?_ _)); exact BK1019.out) hb); replace BK1024 := am_ (blk_below (g := gb1024) (o := .cells #[.int .i64 ((rd_T42 l0_2 x41_3).f0), .int .i64 ((rd_T42 l0_2 x41_3).f1)] 42 (0, 0)) (by (with_reducible repeat (first | refine blk_drewN ?_ _ | refine blk_drew ?_ | refine blk_alloc ?_ _)); refine blk_put (cs := #[.int .i64 ((rd_T42 l0_2 x41_3).f0), .int .i64 0]) ?_ 1 _ rfl; (with_reducible repeat (first | refine blk_drewN ?_ _ | refine blk_drew ?_ | refine blk_alloc ?_ _)); refine blk_put (cs := #[.int .i64 0, .int .i64 0]) ?_ 0 _ rfl; (with_reducible repeat (first | refine blk_drewN ?_ _ | refine blk_drew ?_ | refine blk_alloc ?_ _)); exact BK1024.out) hb); replace HB := am_ (below_step (hb2_ HB.out GE1019.out GE1024.out) hb); (try clear hb); (try clear hb2); (try clear hk); (try clear hi)) | ((with_reducible refine gate_dst (N := 13) rfl ?_); refine be_ (N := 13) (cs := #[.int .i64 0, .int .i64 0]) (t := 25) ?_; intro gb1028 hg w55 hbox hb; have BK1028 := am_ (hbox); have GW1028 := am_ (hy_ hg (hb2_ HB.out GE1019.out GE1024.out) : w.heap.size ≤ gb1028); have GE1028 := GW1028; have NB1019_1028 := am_ (bl_ hg BK1019.out : gb1019 ≠ gb1028); have NB1028_1019 := nb_ NB1019_1028; have NB1024_1028 := am_ (bl_ hg BK1024.out : gb1024 ≠ gb1028); have NB1028_1024 := nb_ NB1024_1028; replace BK1019 := am_ (bb_ BK1019.out hb); replace BK1024 := am_ (bb_ BK1024.out hb); replace HB := am_ (below_step (hb2_ HB.out GE1019.out GE1024.out) hb); clear hb hbox hg; have hnb56 := NB1028_1019.out; have hnc56 := NB1019_1028.out; have hnb57 := NB1028_1024.out; have hnc57 := NB1024_1028.out; obtain ⟨hcz58_0, hcz58_1, hfz58_0, hfz58_1⟩ := bc2_ BK1028.out; have hcz59_0 : w55.cell? ⟨gb1024, 0, none⟩ = some (.int .i64 ((rd_T42 l0_2 x41_3).f0)) := (blk_cell BK1024.out 0).trans rfl; have hcz59_1 : w55.cell? ⟨gb1024, 1, none⟩ = some (.int .i64 ((rd_T42 l0_2 x41_3).f1)) := (blk_cell BK1024.out 1).trans rfl; have hfz59_0 := blk_frozen BK1024.out 0; have hfz59_1 := blk_frozen BK1024.out 1))
               go_roundg k3
               case measure => have := HJ3.out; have := HK2.out; have := HK3.out; omega
               case rel => exact ⟨(wrap64 (x41_3 + 1)), (by first | rfl | (simp; done) | (simp [*]; done)), H', ⟨by have := HJ3.out; have := HK2.out; have := HK3.out; omega⟩, ⟨by (with_reducible repeat (first | refine blk_drewN ?_ _ | refine blk_drew ?_ | refine blk_alloc ?_ _)); refine blk_far ?_ NB1019_1028.out _; (with_reducible repeat (first | refine blk_drewN ?_ _ | refine blk_drew ?_ | refine blk_alloc ?_ _)); refine blk_far ?_ NB1019_1028.out _; (with_reducible repeat (first | refine blk_drewN ?_ _ | refine blk_drew ?_ | refine blk_alloc ?_ _)); exact BK1019.out⟩, ⟨hb3_ HB.out GE1019.out GE1024.out GE1028.out⟩⟩
             ·replace c25 := Bool.eq_false_iff.mpr c25; subst c25; replace H := i0_ H; have H' := Aside0.mk H; clear H; have p1023 : 0 ≤ (x41_3 : Int) := of_decide_eq_true (by first | (with_reducible assumption) | assumption); have q1023 : x41_3 < (l0_2.length : Int) := of_decide_eq_true (by first | (with_reducible assumption) | assumption); obtain ⟨ad1023, e1023, hx1023_0, hx1023_1⟩ := at_T42 HR0_2.out x41_3 p1023 q1023
              cases e1023
              replace hx1023_0 := (HB.out.cell (World.block_lt_of_cell? w _ hx1023_0)).trans hx1023_0; replace hx1023_1 := (HB.out.cell (World.block_lt_of_cell? w _ hx1023_1)).trans hx1023_1; replace p1023 := eq_true p1023; replace q1023 := eq_true q1023
              go_wp2_with (first | ((with_reducible refine gate_dst (N := 12) rfl ?_); refine be_ (N := 12) (cs := #[.int .i64 0, .int .i64 0]) (t := 42) ?_; intro gb1024 hg w60 hbox hb; have BK1024 := am_ (hbox); have GW1024 := am_ (hy_ hg (hb1_ HB.out GE1019.out) : w.heap.size ≤ gb1024); have GE1024 := GW1024; have NB1019_1024 := am_ (bl_ hg BK1019.out : gb1019 ≠ gb1024); have NB1024_1019 := nb_ NB1019_1024; replace BK1019 := am_ (bb_ BK1019.out hb); replace HB := am_ (below_step (hb1_ HB.out GE1019.out) hb); clear hb hbox hg; have hnb61 := NB1024_1019.out; have hnc61 := NB1019_1024.out; obtain ⟨hcz62_0, hcz62_1, hfz62_0, hfz62_1⟩ := bc2_ BK1024.out; have hcz63_0 := bc_ BK1019.out 0 (.int .i64 a0_0) rfl; have hcz63_1 := bc_ BK1019.out 1 (.int .i64 a0_1) rfl; have hcz63_2 : w60.cell? ⟨gb1019, 2, none⟩ = some (.slice (some ad1023) l0_2.length c0_2) := (blk_cell BK1019.out 2).trans rfl; have hfz63_0 := blk_frozen BK1019.out 0; have hfz63_1 := blk_frozen BK1019.out 1; have hfz63_2 := blk_frozen BK1019.out 2) | ((with_reducible refine gate_callee (f := 12) rfl ?_); refine gl_ Try.func12 #[.agg #[.int .i64 a0_0, .int .i64 a0_1, .slice (some ad1023) l0_2.length c0_2], .int .i64 x41_3, .int .i64 x10_2] ?_; (with_reducible refine (impl_Occurrence.calls k3 a0_0 a0_1 _ _ l0_2 x41_3 x10_2 t1025 t1026 false _ ?side1 ?side2 A24.out).mono ?_); (case side1 => exact Kd.C_below HR0_2.out (hb2_ HB.out GE1019.out GE1024.out)); (case side2 => exact HC0_2.out); rintro e w64 ⟨rfl, hb⟩; refine ⟨_, rfl, ?_⟩; replace BK1019 := am_ (blk_below (g := gb1019) (o := .cells #[.int .i64 a0_0, .int .i64 a0_1, .slice (some ad1023) l0_2.length c0_2] 30 (0, 0)) (by (with_reducible repeat (first | refine blk_drewN ?_ _ | refine blk_drew ?_ | refine blk_alloc ?_ _)); refine blk_far ?_ NB1019_1024.out _; (with_reducible repeat (first | refine blk_drewN ?_ _ | refine blk_drew ?_ | refine blk_alloc ?_ _)); refine blk_far ?_ NB1019_1024.out _; (with_reducible repeat (first | refine blk_drewN ?_ _ | refine blk_drew ?_ | refine blk_alloc ?_ _)); exact BK1019.out) hb); replace BK1024 := am_ (blk_below (g := gb1024) (o := .cells #[.int .i64 ((rd_T42 l0_2 x41_3).f0), .int .i64 ((rd_T42 l0_2 x41_3).f1)] 42 (0, 0)) (by (with_reducible repeat (first | refine blk_drewN ?_ _ | refine blk_drew ?_ | refine blk_alloc ?_ _)); refine blk_put (cs := #[.int .i64 ((rd_T42 l0_2 x41_3).f0), .int .i64 0]) ?_ 1 _ rfl; (with_reducible repeat (first | refine blk_drewN ?_ _ | refine blk_drew ?_ | refine blk_alloc ?_ _)); refine blk_put (cs := #[.int .i64 0, .int .i64 0]) ?_ 0 _ rfl; (with_reducible repeat (first | refine blk_drewN ?_ _ | refine blk_drew ?_ | refine blk_alloc ?_ _)); exact BK1024.out) hb); replace HB := am_ (below_step (hb2_ HB.out GE1019.out GE1024.out) hb); (try clear hb); (try clear hb2); (try clear hk); (try clear hi)) | ((with_reducible refine gate_dst (N := 13) rfl ?_); refine be_ (N := 13) (cs := #[.int .i64 0, .int .i64 0]) (t := 25) ?_; intro gb1028 hg w65 hbox hb; have BK1028 := am_ (hbox); have GW1028 := am_ (hy_ hg (hb2_ HB.out GE1019.out GE1024.out) : w.heap.size ≤ gb1028); have GE1028 := GW1028; have NB1019_1028 := am_ (bl_ hg BK1019.out : gb1019 ≠ gb1028); have NB1028_1019 := nb_ NB1019_1028; have NB1024_1028 := am_ (bl_ hg BK1024.out : gb1024 ≠ gb1028); have NB1028_1024 := nb_ NB1024_1028; replace BK1019 := am_ (bb_ BK1019.out hb); replace BK1024 := am_ (bb_ BK1024.out hb); replace HB := am_ (below_step (hb2_ HB.out GE1019.out GE1024.out) hb); clear hb hbox hg; have hnb66 := NB1028_1019.out; have hnc66 := NB1019_1028.out; have hnb67 := NB1028_1024.out; have hnc67 := NB1024_1028.out; obtain ⟨hcz68_0, hcz68_1, hfz68_0, hfz68_1⟩ := bc2_ BK1028.out))
              go_roundg k3
              case measure => have := HJ3.out; have := HK2.out; have := HK3.out; omega
              case rel => exact ⟨(wrap64 (x41_3 + 1)), (by first | rfl | (simp; done) | (simp [*]; done)), H', ⟨by have := HJ3.out; have := HK2.out; have := HK3.out; omega⟩, ⟨by (with_reducible repeat (first | refine blk_drewN ?_ _ | refine blk_drew ?_ | refine blk_alloc ?_ _)); refine blk_far ?_ NB1019_1028.out _; (with_reducible repeat (first | refine blk_drewN ?_ _ | refine blk_drew ?_ | refine blk_alloc ?_ _)); refine blk_far ?_ NB1019_1028.out _; (with_reducible repeat (first | refine blk_drewN ?_ _ | refine blk_drew ?_ | refine blk_alloc ?_ _)); exact BK1019.out⟩, ⟨hb3_ HB.out GE1019.out GE1024.out GE1028.out⟩⟩
            ·rw [if_neg c23] at H; exact absurd H (by simp)
           ·rw [if_neg c22] at H; exact absurd H (by simp)
          ·rw [if_neg c21] at H; have c21b0 : decide (x41_3 < (l0_2.length : Int)) = false := decide_eq_false c21; clear c21; have H' := Aside0.mk H; clear H; go_wp2
           go_roundg k3
           case measure => have := HJ3.out; have := HK2.out; have := HK3.out; omega
           case rel => exact ⟨(wrap64 (x10_2 + 1)), (by first | rfl | (simp; done) | (simp [*]; done)), H', ⟨by have := HJ3.out; have := HK2.out; have := HK3.out; omega⟩, ⟨bk_ BK1019.out⟩, ⟨hb1_ HB.out GE1019.out⟩⟩
       ·rw [if_neg c19] at H; have c19b0 : decide (x10_2 ≤ (wrap64 ((wrap64 (Int.tdiv (ji14) t1022)) + 1))) = false := decide_eq_false c19; clear c19; simp only [Option.some.injEq, Prod.mk.injEq] at H
        obtain ⟨rfl, rfl, rfl⟩ := H; go_wp2
        go_ret3
        exact ⟨by first | rfl | (simp [errW_none, errW_some] <;> rfl) | (simp only [← hji14]; first | rfl | (simp [errW_none, errW_some] <;> rfl)) | (simp [*, errW_none, errW_some] <;> rfl), hb1_ HB.out GE1019.out⟩
end Go.Proofs.Ytllpmpfchidhoaa.P

namespace Go.Proofs.Ytllpmpfchidhoaa.P
open Go.RowKit Go.Proofs.YtllpmpfchidhoaaW.PrintWords Go.Proofs.YtllpmpfchidhoaaW.PrintLast Go.Proofs.YtllpmpfchidhoaaW.PrintMore
attribute [local go_sem] max2_int min2_int max_two min_two max_three min_three max_four min_four
set_option linter.unusedVariables false
set_option linter.unusedSimpArgs false
def spec_l1Max.f (a0 : Int) (a1 : Int) : Option (Int) := if a0 > a1 then (some a0) else (some a1)
set_option maxHeartbeats 8000000 in
set_option maxRecDepth 100000 in
theorem spec_l1Max.calls (a0 : Int) (a1 : Int) (r : Int) (w : World) (h : spec_l1Max.f a0 a1 = some r) :
  Calls Try.prog 80 #[.int .i64 a0, .int .i64 a1] w fun e w' => e = .returned (.int .i64 r) ∧ Drawn0 w w' := by
 have H : (if a0 > a1 then (some a0) else (some a1)) = some r := h; clear h; by_cases c3 : a0 > a1
 ·rw [if_pos c3] at H; have c3b0 : decide (a1 < a0) = true := decide_eq_true c3; clear c3; obtain rfl := Option.some.inj H; go_enter Try.func80, Try.ntmps80
  go_wp2
  go_ret
  exact ⟨by first | rfl | (simp; done) | (simp [*]; done), by repeat (first | exact Drawn0.refl _ | apply Drawn0.step)⟩
 ·rw [if_neg c3] at H; have c3b0 : decide (a1 < a0) = false := decide_eq_false c3; clear c3; obtain rfl := Option.some.inj H; go_enter Try.func80, Try.ntmps80
  go_wp2
  go_ret
  exact ⟨by first | rfl | (simp; done) | (simp [*]; done), by repeat (first | exact Drawn0.refl _ | apply Drawn0.step)⟩
end Go.Proofs.Ytllpmpfchidhoaa.P
namespace Go.Proofs.Ytllpmpfchidhoaa.P
open Go.RowKit Go.Proofs.YtllpmpfchidhoaaW.PrintWords Go.Proofs.YtllpmpfchidhoaaW.PrintLast Go.Proofs.YtllpmpfchidhoaaW.PrintMore
attribute [local go_sem] max2_int min2_int max_two min_two max_three min_three max_four min_four
set_option linter.unusedVariables false
set_option linter.unusedSimpArgs false
mutual
def spec_NextOwn.j0 : Nat → Int → Int → Bool → Int → Int → List (S42) → Option (Int × Int × Bool)
 | 0, _, _, _, _, _, _ => none
 | k + 1, x1, x2, x21, x1030000, x1030001, x1030002 => if x21 = true then (some (0, 0, false)) else ((spec_RoundOf.f k x1030000 x1030001 x1030002).bind fun t1032 => (if t1032 = 0 then (none) else ((spec_l1Max.f 0 (wrap64 (Int.tdiv (wrap64 (x2 - x1030000)) t1032))).bind fun t1033 => (spec_NextOwn.l0 k x1 x2 t1033 t1033 x1030000 x1030001 x1030002))))
def spec_NextOwn.l0 : Nat → Int → Int → Int → Int → Int → Int → List (S42) → Option (Int × Int × Bool)
 | 0, _, _, _, _, _, _, _ => none
 | k + 1, x1, x2, x9, x10, x1030000, x1030001, x1030002 => if x10 ≤ (wrap64 (x9 + 1)) then (spec_NextOwn.l1 k x1 x2 x9 x10 0 x1030000 x1030001 x1030002) else (some (0, 0, false))
def spec_NextOwn.l1 : Nat → Int → Int → Int → Int → Int → Int → Int → List (S42) → Option (Int × Int × Bool)
 | 0, _, _, _, _, _, _, _, _ => none
 | k + 1, x1, x2, x9, x10, x11, x1030000, x1030001, x1030002 => if x11 < (x1030002.length : Int) then ((spec_Occurrence.f k x1030000 x1030001 x1030002 x11 x10).bind fun bt1034 => (if bt1034.2.2 = true then (if 0 ≤ x11 then (if ((rd_T42 x1030002 x11).f0) = x1 then (if bt1034.1 ≥ x2 then (some (x11, bt1034.1, true)) else (spec_NextOwn.l1 k x1 x2 x9 x10 (wrap64 (x11 + 1)) x1030000 x1030001 x1030002)) else (spec_NextOwn.l1 k x1 x2 x9 x10 (wrap64 (x11 + 1)) x1030000 x1030001 x1030002)) else (none)) else (spec_NextOwn.l1 k x1 x2 x9 x10 (wrap64 (x11 + 1)) x1030000 x1030001 x1030002))) else (spec_NextOwn.l0 k x1 x2 x9 (wrap64 (x10 + 1)) x1030000 x1030001 x1030002)
end
def spec_NextOwn.f (k : Nat) (a0_0 : Int) (a0_1 : Int) (l0_2 : List (S42)) (a1 : Int) (a2 : Int) : Option (Int × Int × Bool) := (spec_PlanOk.f k a0_0 a0_1 l0_2).bind fun t1030 => (if t1030 = true then ((spec_l2Time.f a2).bind fun t1031 => (spec_NextOwn.j0 k a1 a2 (!t1031) a0_0 a0_1 l0_2)) else (spec_NextOwn.j0 k a1 a2 true a0_0 a0_1 l0_2))
def spec_NextOwn.T3 : Bool × List (List Nat × List Nat) := (true, [([], []), ([], []), ([1], [1]), ([0, 2], [0, 2]), ([], []), ([4], [4]), ([3, 5], [3, 5]), ([6, 5], [6]), ([7, 7, 0, 1, 2, 3, 4, 5, 6, 7], [7])])
def spec_NextOwn.B3 : List Nat := [0, 0, 2, 7, 0, 16, 63, 127, 255]
theorem spec_NextOwn.tab3 : rtab .any (opsOf Try.f33 3) = spec_NextOwn.T3 := by kernel_rfl
theorem spec_NextOwn.bits3 : waitsOk spec_NextOwn.T3.2 spec_NextOwn.B3 = true := by kernel_rfl
set_option maxHeartbeats 8000000 in
set_option maxRecDepth 100000 in
theorem spec_NextOwn.calls (k : Nat) (a0_0 : Int) (a0_1 : Int) (A0_2 : Option Addr) (c0_2 : Nat) (l0_2 : List (S42)) (a1 : Int) (a2 : Int) (r1 : Int) (r2 : Int) (r3 : Bool) (w : World) (hr0_2 : Kd.C k42 w A0_2 l0_2.length l0_2) (hc0_2 : l0_2.length ≤ c0_2) (h : spec_NextOwn.f k a0_0 a0_1 l0_2 a1 a2 = some (r1, r2, r3)) :
  Calls Try.prog 33 #[.agg #[.int .i64 a0_0, .int .i64 a0_1, .slice A0_2 l0_2.length c0_2], .int .i64 a1, .int .i64 a2] w fun e w' => e = .returned (.tuple #[.int .i64 r1, .int .i64 r2, .bool r3]) ∧ Below w.heap.size w w' := by
 have hu30 := Try.underlying30; have hu25 := Try.underlying25; have HR0_2 := Aside0.mk hr0_2; have HC0_2 := Aside0.mk hc0_2; clear hr0_2 hc0_2; have HB := am_ (Below.refl w.heap.size w); have H : ((spec_PlanOk.f k a0_0 a0_1 l0_2).bind fun t1030 => (if t1030 = true then ((spec_l2Time.f a2).bind fun t1031 => (spec_NextOwn.j0 k a1 a2 (!t1031) a0_0 a0_1 l0_2)) else (spec_NextOwn.j0 k a1 a2 true a0_0 a0_1 l0_2))) = some (r1, r2, r3) := h; clear h; have HC4 := Aside0.mk H; clear H; go_enter Try.func33, Try.ntmps33
 go_upto_region 1 with (first | ((with_reducible refine gate_dst (N := 3) rfl ?_); refine be_ (N := 3) (cs := #[.int .i64 a0_0, .int .i64 a0_1, .slice A0_2 l0_2.length c0_2]) (t := 30) ?_; intro gb1029 hg w5 hbox hb; have BK1029 := am_ (hbox); have GW1029 := am_ (hy_ hg (hb_ HB.out) : w.heap.size ≤ gb1029); have GE1029 := GW1029; replace HB := am_ (below_step (hb_ HB.out) hb); clear hb hbox hg))
 (try simp only [Act.put, List.setIfInBounds_toArray, List.set_cons_zero, List.set_cons_succ]); go_cut [21] (fun v21 wc => ∃ (kq : Nat) (x21_3 : Bool), v21 = .bool x21_3 ∧ Aside0 (spec_NextOwn.j0 kq a1 a2 x21_3 a0_0 a0_1 l0_2 = some (r1, r2, r3)) ∧ Aside0 (kq ≤ k) ∧ Aside0 (wc.heap[gb1029]? = some (.cells #[.int .i64 a0_0, .int .i64 a0_1, (.slice A0_2 l0_2.length c0_2)] 30 (0, 0))) ∧ Aside0 (Below w.heap.size w wc))
 case first =>
  have H := HC4.out; clear HC4; obtain ⟨t1030, A6, H⟩ := ab_ H; by_cases c7 : t1030 = true
  ·subst c7; replace H := i1_ H; obtain ⟨t1031, A8, H⟩ := ab_ H; have H' := Aside0.mk H; clear H; have hcz9_0 := bc_ BK1029.out 0 (.int .i64 a0_0) rfl; have hcz9_1 := bc_ BK1029.out 1 (.int .i64 a0_1) rfl; have hcz9_2 := bc_ BK1029.out 2 (.slice A0_2 l0_2.length c0_2) rfl; have hfz9_0 := blk_frozen BK1029.out 0; have hfz9_1 := blk_frozen BK1029.out 1; have hfz9_2 := blk_frozen BK1029.out 2; go_wp2_with (first | ((with_reducible refine gate_callee (f := 55) rfl ?_); refine gl_ Try.func55 #[.agg #[.int .i64 a0_0, .int .i64 a0_1, .slice A0_2 l0_2.length c0_2]] ?_; (with_reducible refine (spec_PlanOk.calls k a0_0 a0_1 _ _ l0_2 true _ ?side1 ?side2 A6.out).mono ?_); (case side1 => exact kc_ (Kd.C_below HR0_2.out HB.out)); (case side2 => exact HC0_2.out); rintro e w10 ⟨rfl, hb⟩; refine ⟨_, rfl, ?_⟩; replace BK1029 := am_ (bb_ BK1029.out hb); replace HB := am_ (below_step (hb1_ HB.out GE1029.out) hb); (try clear hb); (try clear hb2); (try clear hk); (try clear hi)) | (go_at_call 62; (with_reducible refine (spec_l2Time.calls a2 t1031 _ A8.out).mono ?_); rintro e w' ⟨rfl, ⟨nd, rfl⟩⟩))
   go_meet
   case rel => exact ⟨_, (!t1031), (by first | rfl | (simp; done) | (simp [*]; done)), H', ⟨by first | omega | exact Nat.le_refl _⟩, ⟨bk_ BK1029.out⟩, ⟨hb1_ HB.out GE1029.out⟩⟩
  ·replace c7 := Bool.eq_false_iff.mpr c7; subst c7; replace H := i0_ H; have H' := Aside0.mk H; clear H; have hcz11_0 := bc_ BK1029.out 0 (.int .i64 a0_0) rfl; have hcz11_1 := bc_ BK1029.out 1 (.int .i64 a0_1) rfl; have hcz11_2 := bc_ BK1029.out 2 (.slice A0_2 l0_2.length c0_2) rfl; have hfz11_0 := blk_frozen BK1029.out 0; have hfz11_1 := blk_frozen BK1029.out 1; have hfz11_2 := blk_frozen BK1029.out 2; go_wp2_with (first | ((with_reducible refine gate_callee (f := 55) rfl ?_); refine gl_ Try.func55 #[.agg #[.int .i64 a0_0, .int .i64 a0_1, .slice A0_2 l0_2.length c0_2]] ?_; (with_reducible refine (spec_PlanOk.calls k a0_0 a0_1 _ _ l0_2 false _ ?side1 ?side2 A6.out).mono ?_); (case side1 => exact kc_ (Kd.C_below HR0_2.out HB.out)); (case side2 => exact HC0_2.out); rintro e w12 ⟨rfl, hb⟩; refine ⟨_, rfl, ?_⟩; replace BK1029 := am_ (bb_ BK1029.out hb); replace HB := am_ (below_step (hb1_ HB.out GE1029.out) hb); (try clear hb); (try clear hb2); (try clear hk); (try clear hi)))
   go_meet
   case rel => exact ⟨_, (true), (by first | rfl | (simp; done) | (simp [*]; done)), H', ⟨by first | omega | exact Nat.le_refl _⟩, ⟨bk_ BK1029.out⟩, ⟨hb1_ HB.out GE1029.out⟩⟩
 case rest =>
  clear HC4; (try clear c7); (try clear hcz11_0); (try clear hcz11_1); (try clear hcz11_2); (try clear hcz9_0); (try clear hcz9_1); (try clear hcz9_2); (try clear hfz11_0); (try clear hfz11_1); (try clear hfz11_2); (try clear hfz9_0); (try clear hfz9_1); (try clear hfz9_2); obtain ⟨kq, x21_3, rfl, HA, HJ3, BK1029, HB⟩ := hcut
  cases kq with
  | zero => exact absurd HA.out (by simp [spec_NextOwn.j0])
  | succ kj3 =>
   have H := HA.out; clear HA; simp only [spec_NextOwn.j0] at H
   by_cases c13 : x21_3 = true
   ·subst c13; replace H := i1_ H; simp only [Option.some.injEq, Prod.mk.injEq] at H
    obtain ⟨rfl, rfl, rfl⟩ := H; go_wp2
    go_ret3
    exact ⟨er_, hb1_ HB.out GE1029.out⟩
   ·replace c13 := Bool.eq_false_iff.mpr c13; subst c13; replace H := i0_ H; obtain ⟨t1032, A14, H⟩ := ab_ H; by_cases c15 : t1032 = 0
    ·rw [if_pos c15] at H; exact absurd H (by simp)
    ·rw [if_neg c15] at H; have c15b0 : (t1032 == 0) = false := beq_eq_false_iff_ne.mpr c15; have c15b1 : (t1032 != 0) = true := bne_iff_ne.mpr c15; obtain ⟨t1033, A16, H⟩ := ab_ H; have H' := Aside0.mk H; clear H; try go_wp2
     have n0_ := am_ (blk_drew BK1029.out); have n1_ := am_ (below_drew1 HB.out); clear BK1029; clear HB; have BK1029 := n0_; have HB := n1_; clear n0_ n1_; refine start_ (n := 9) (S := fun w' => w'.cell? ⟨gb1029, 0, none⟩ = some (.int .i64 a0_0) ∧ w'.cell? ⟨gb1029, 1, none⟩ = some (.int .i64 a0_1) ∧ w'.cell? ⟨gb1029, 2, none⟩ = some (.slice A0_2 l0_2.length c0_2)) (ds := []) #[false, false, false, false, false, false, false, false, false] (by kernel_rfl) rfl rfl ⟨(blk_cell BK1029.out 0).trans rfl, (blk_cell BK1029.out 1).trans rfl, (blk_cell BK1029.out 2).trans rfl⟩ (fun hHeld => ?_); refine with_tabW spec_NextOwn.tab3 spec_NextOwn.bits3 (fun HT_ HW_ => ?_)
     generalize wc.drew = w17 at BK1029 HB hHeld ⊢
     refine pure_ (i := 0) (N := some 22) (v := ?_) (a' := ?_) #[true, false, false, false, false, false, false, false, false] rfl rfl (any_of HT_.out (by kernel_rfl)) (fun _ _ _ h => h) (Or.inl ⟨by rfl, ?_⟩) ?_ ?_
     rotate_left
     ·intro w'; go_simp
      with_reducible rfl
     rotate_left
     ·simp only [Act.put, List.setIfInBounds_toArray, List.set_cons_zero, List.set_cons_succ, i64_w, i32_w]
      rfl
     refine pure_ (i := 1) (N := some 23) (v := ?_) (a' := ?_) #[true, true, false, false, false, false, false, false, false] rfl rfl (any_of HT_.out (by kernel_rfl)) (fun _ _ _ h => h) (Or.inl ⟨by rfl, ?_⟩) ?_ ?_
     rotate_left
     ·intro w'; go_simp
      with_reducible rfl
     rotate_left
     ·simp only [Act.put, List.setIfInBounds_toArray, List.set_cons_zero, List.set_cons_succ, i64_w, i32_w]
      rfl
     refine take_ (i := 2) (N := some 24) (v := ?_) (a' := ?_) #[true, true, true, false, false, false, false, false, false] rfl rfl (take_ofW HT_.out HW_.out (by kernel_rfl)) (fun _ _ _ h => h) (Or.inl ⟨by rfl, ?_⟩) hHeld ?_ ?_
     rotate_left
     ·rintro w' ⟨s0, s1, s2⟩; go_simp
      with_reducible rfl
     rotate_left
     ·simp only [Act.put, List.setIfInBounds_toArray, List.set_cons_zero, List.set_cons_succ, i64_w, i32_w]
      rfl
     refine pure_ (i := 3) (N := some 25) (v := ?_) (a' := ?_) #[true, true, true, true, false, false, false, false, false] rfl rfl (any_of HT_.out (by kernel_rfl)) (fun _ _ _ h => h) (Or.inl ⟨by rfl, ?_⟩) ?_ ?_
     rotate_left
     ·intro w'; go_simp
      with_reducible rfl
     rotate_left
     ·simp only [Act.put, List.setIfInBounds_toArray, List.set_cons_zero, List.set_cons_succ, i64_w, i32_w]
      rfl
     refine take_ (i := 4) (N := some 26) (v := ?_) (a' := ?_) #[true, true, true, true, true, false, false, false, false] rfl rfl (take_ofW HT_.out HW_.out (by kernel_rfl)) (fun _ _ _ h => h) (Or.inl ⟨by rfl, ?_⟩) hHeld ?_ ?_
     rotate_left
     ·rintro w' ⟨s0, s1, s2⟩; go_simp
      with_reducible rfl
     rotate_left
     ·simp only [Act.put, List.setIfInBounds_toArray, List.set_cons_zero, List.set_cons_succ, i64_w, i32_w]
      rfl
     refine one_ (i := 5) (N := some 27) #[true, true, true, true, true, true, false, false, false] rfl rfl (one_of HT_.out (by kernel_rfl)) (by decide) (fun K hK => ?_)
     refine goes_ Try.func25 (by kernel_rfl) rfl #[.agg #[.int .i64 a0_0, .int .i64 a0_1, .slice A0_2 l0_2.length c0_2]] (by rfl) rfl rfl arr_ ?_
     with_reducible refine (spec_RoundOf.calls kj3 a0_0 a0_1 _ _ l0_2 t1032 _ ?side1 ?side2 A14.out).mono ?_
     (case side1 => exact kc_ (Kd.C_below HR0_2.out HB.out))
     (case side2 => exact HC0_2.out)
     rintro e w18 ⟨rfl, hb⟩; refine ⟨_, rfl, ?_⟩
     have n0_ := am_ (bb_ BK1029.out hb); have n1_ := am_ (below_step (hb1_ HB.out GE1029.out) hb); clear BK1029; clear HB; have BK1029 := n0_; have HB := n1_; clear n0_ n1_; (try clear hb); (try clear hb2); (try clear hk); (try clear hi); refine hK.out _ _ ⟨(blk_cell BK1029.out 0).trans rfl, (blk_cell BK1029.out 1).trans rfl, (blk_cell BK1029.out 2).trans rfl⟩ (fun hHeld => ?_)
     clear hK K; refine norm_ (a' := ?_) ?_ ?_
     rotate_left
     ·show Act.put _ (some 27) _ = _
      simp only [Act.put, List.setIfInBounds_toArray, List.set_cons_zero, List.set_cons_succ, i64_w, i32_w]
      rfl
     refine pure_ (i := 6) (N := some 28) (v := ?_) (a' := ?_) #[true, true, true, true, true, true, true, false, false] rfl rfl (any_of HT_.out (by kernel_rfl)) (fun _ _ _ h => h) (Or.inl ⟨by rfl, ?_⟩) ?_ ?_
     rotate_left
     ·intro w'; go_simp
      with_reducible rfl
     rotate_left
     ·simp only [Act.put, List.setIfInBounds_toArray, List.set_cons_zero, List.set_cons_succ, i64_w, i32_w]
      rfl
     refine one_ (i := 7) (N := some 29) #[true, true, true, true, true, true, true, true, false] rfl rfl (one_of HT_.out (by kernel_rfl)) (by decide) (fun K hK => ?_)
     refine goes_ Try.func80 (by kernel_rfl) rfl #[.int .i64 0, .int .i64 (wrap64 (Int.tdiv (wrap64 (a2 - a0_0)) t1032))] (by rfl) rfl rfl arr_ ?_
     with_reducible refine (spec_l1Max.calls 0 (wrap64 (Int.tdiv (wrap64 (a2 - a0_0)) t1032)) t1033 _ A16.out).mono ?_
     rintro e w' ⟨rfl, ⟨nd, rfl⟩⟩; refine ⟨_, rfl, ?_⟩
     refine hK.out _ _ ⟨(blk_cell BK1029.out 0).trans rfl, (blk_cell BK1029.out 1).trans rfl, (blk_cell BK1029.out 2).trans rfl⟩ (fun hHeld => ?_)
     clear hK K; refine norm_ (a' := ?_) ?_ ?_
     rotate_left
     ·show Act.put _ (some 29) _ = _
      simp only [Act.put, List.setIfInBounds_toArray, List.set_cons_zero, List.set_cons_succ, i64_w, i32_w]
      rfl
     refine pure_ (i := 8) (N := some 9) (v := ?_) (a' := ?_) #[true, true, true, true, true, true, true, true, true] rfl rfl (any_of HT_.out (by kernel_rfl)) (fun _ _ _ h => h) (Or.inl ⟨by rfl, ?_⟩) ?_ ?_
     rotate_left
     ·intro w'; go_simp
      with_reducible rfl
     rotate_left
     ·simp only [Act.put, List.setIfInBounds_toArray, List.set_cons_zero, List.set_cons_succ, i64_w, i32_w]
      rfl
     refine done_ (done_of HT_.out (by kernel_rfl)) ?_
     try go_wp2
     go_loopg [10] kj3 (fun kq v10 w' => ∃ (x10_2 : Int), v10 = .int .i64 x10_2 ∧ Aside0 (spec_NextOwn.l0 kq a1 a2 t1033 x10_2 a0_0 a0_1 l0_2 = some (r1, r2, r3)) ∧ Aside0 (kq ≤ kj3) ∧ Aside0 (w'.heap[gb1029]? = some (.cells #[.int .i64 a0_0, .int .i64 a0_1, (.slice A0_2 l0_2.length c0_2)] 30 (0, 0))) ∧ Aside0 (Below w.heap.size w w'))
     case atStart => exact ⟨(t1033), (by first | rfl | (simp; done) | (simp [*]; done)), H', ⟨Nat.le_refl _⟩, ⟨bk_ BK1029.out⟩, ⟨hb1_ HB.out GE1029.out⟩⟩
     case round =>
      clear H'; (try clear c7); (try clear c13); (try clear c15); (try clear c15b0); (try clear c15b1); (try clear hcz11_0); (try clear hcz11_1); (try clear hcz11_2); (try clear hcz9_0); (try clear hcz9_1); (try clear hcz9_2); (try clear hfz11_0); (try clear hfz11_1); (try clear hfz11_2); (try clear hfz9_0); (try clear hfz9_1); (try clear hfz9_2); obtain ⟨x10_2, rfl, HA, HK2, BK1029, HB⟩ := hrel
      cases gk with
      | zero => exact absurd HA.out (by simp [spec_NextOwn.l0])
      | succ k2 =>
       have H := HA.out; clear HA; simp only [spec_NextOwn.l0] at H
       by_cases c19 : x10_2 ≤ (wrap64 (t1033 + 1))
       ·rw [if_pos c19] at H; have c19b0 : decide (x10_2 ≤ (wrap64 (t1033 + 1))) = true := decide_eq_true c19; clear c19; have H' := Aside0.mk H; clear H; go_wp2
        go_loopg [11] k2 (fun kq v11 w' => ∃ (x11_3 : Int), v11 = .int .i64 x11_3 ∧ Aside0 (spec_NextOwn.l1 kq a1 a2 t1033 x10_2 x11_3 a0_0 a0_1 l0_2 = some (r1, r2, r3)) ∧ Aside0 (kq ≤ k2) ∧ Aside0 (w'.heap[gb1029]? = some (.cells #[.int .i64 a0_0, .int .i64 a0_1, (.slice A0_2 l0_2.length c0_2)] 30 (0, 0))) ∧ Aside0 (Below w.heap.size w w'))
        case atStart => exact ⟨(0), (by first | rfl | (simp; done) | (simp [*]; done)), H', ⟨Nat.le_refl _⟩, ⟨bk_ BK1029.out⟩, ⟨hb1_ HB.out GE1029.out⟩⟩
        case round =>
         clear H'; (try clear c7); (try clear c13); (try clear c15); (try clear c15b0); (try clear c15b1); (try clear c19); (try clear c19b0); (try clear hcz11_0); (try clear hcz11_1); (try clear hcz11_2); (try clear hcz9_0); (try clear hcz9_1); (try clear hcz9_2); (try clear hfz11_0); (try clear hfz11_1); (try clear hfz11_2); (try clear hfz9_0); (try clear hfz9_1); (try clear hfz9_2); obtain ⟨x11_3, rfl, HA, HK3, BK1029, HB⟩ := hrel
         cases gk with
         | zero => exact absurd HA.out (by simp [spec_NextOwn.l1])
         | succ k3 =>
          have H := HA.out; clear HA; simp only [spec_NextOwn.l1] at H
          by_cases c20 : x11_3 < (l0_2.length : Int)
          ·rw [if_pos c20] at H; have c20b0 : decide (x11_3 < (l0_2.length : Int)) = true := decide_eq_true c20; clear c20; obtain ⟨⟨t1034, t1035, t1036⟩, A21, H⟩ := ab_ H; (try dsimp only at H); by_cases c22 : t1036 = true
           ·subst c22; replace H := i1_ H; by_cases c23 : 0 ≤ x11_3
            ·rw [if_pos c23] at H; have c23b0 : decide (0 ≤ x11_3) = true := decide_eq_true c23; clear c23; by_cases c24 : ((rd_T42 l0_2 x11_3).f0) = a1
             ·rw [if_pos c24] at H; have c24b0 : (((rd_T42 l0_2 x11_3).f0) == a1) = true := beq_iff_eq.mpr c24; have c24b1 : (((rd_T42 l0_2 x11_3).f0) != a1) = false := bne_eq_false_iff_eq.mpr c24; clear c24; by_cases c25 : t1034 ≥ a2
              ·rw [if_pos c25] at H; have c25b0 : decide (a2 ≤ t1034) = true := decide_eq_true c25; clear c25; simp only [Option.some.injEq, Prod.mk.injEq] at H
               obtain ⟨rfl, rfl, rfl⟩ := H; have hcz26_0 := bc_ BK1029.out 0 (.int .i64 a0_0) rfl; have hcz26_1 := bc_ BK1029.out 1 (.int .i64 a0_1) rfl; have hcz26_2 := bc_ BK1029.out 2 (.slice A0_2 l0_2.length c0_2) rfl; have hfz26_0 := blk_frozen BK1029.out 0; have hfz26_1 := blk_frozen BK1029.out 1; have hfz26_2 := blk_frozen BK1029.out 2
               try go_wp2_with (first | ((with_reducible refine gate_callee (f := 26) rfl ?_); refine gl_ Try.func26 #[.agg #[.int .i64 a0_0, .int .i64 a0_1, .slice A0_2 l0_2.length c0_2], .int .i64 x11_3, .int .i64 x10_2] ?_; (with_reducible refine (spec_Occurrence.calls k3 a0_0 a0_1 _ _ l0_2 x11_3 x10_2 t1034 t1035 true _ ?side1 ?side2 A21.out).mono ?_); (case side1 => exact kc_ (Kd.C_below HR0_2.out HB.out)); (case side2 => exact HC0_2.out); rintro e w27 ⟨rfl, hb⟩; refine ⟨_, rfl, ?_⟩; replace BK1029 := am_ (bb_ BK1029.out hb); replace HB := am_ (below_step (hb1_ HB.out GE1029.out) hb); (try clear hb); (try clear hb2); (try clear hk); (try clear hi)) | ((with_reducible refine gate_dst (N := 12) rfl ?_); refine be_ (N := 12) (cs := #[.int .i64 0, .int .i64 0]) (t := 25) ?_; intro gb1037 hg w28 hbox hb; have BK1037 := am_ (hbox); have GW1037 := am_ (hy_ hg (hb1_ HB.out GE1029.out) : w.heap.size ≤ gb1037); have GE1037 := GW1037; have NB1029_1037 := am_ (bl_ hg BK1029.out : gb1029 ≠ gb1037); have NB1037_1029 := nb_ NB1029_1037; replace BK1029 := am_ (bb_ BK1029.out hb); replace HB := am_ (below_step (hb1_ HB.out GE1029.out) hb); clear hb hbox hg; have hnb29 := NB1037_1029.out; have hnc29 := NB1029_1037.out; obtain ⟨hcz30_0, hcz30_1, hfz30_0, hfz30_1⟩ := bc2_ BK1037.out; obtain ⟨hcz31_0, hcz31_1, hcz31_2, hfz31_0, hfz31_1, hfz31_2⟩ := bc3_ BK1029.out; have p1038 : 0 ≤ (x11_3 : Int) := of_decide_eq_true (by first | (with_reducible assumption) | assumption); have q1038 : x11_3 < (l0_2.length : Int) := of_decide_eq_true (by first | (with_reducible assumption) | assumption); obtain ⟨ad1038, e1038, hx1038_0, hx1038_1⟩ := at_T42 HR0_2.out x11_3 p1038 q1038; cases e1038; have hn1038_0 : ad1038.block ≠ gb1037 := Nat.ne_of_lt (Nat.lt_of_lt_of_le (by have := World.block_lt_of_cell? _ _ hx1038_0; first | rwa [add_block] at this | exact this) GW1037.out); have hn1038_1 : ad1038.block ≠ gb1037 := Nat.ne_of_lt (Nat.lt_of_lt_of_le (by have := World.block_lt_of_cell? _ _ hx1038_0; first | rwa [add_block] at this | exact this) GW1037.out); replace hx1038_0 := (HB.out.cell (World.block_lt_of_cell? w _ hx1038_0)).trans hx1038_0; replace hx1038_1 := (HB.out.cell (World.block_lt_of_cell? w _ hx1038_1)).trans hx1038_1; replace hx1038_0 := (cell_far (p := ⟨gb1037, 0, none⟩) (by first | (rw [add_block]; exact hn1038_0) | (show (Addr.add _ _).block ≠ _; rw [add_block]; exact hn1038_0) | exact hn1038_0) (.int .i64 t1034)).trans hx1038_0; replace hx1038_1 := (cell_far (p := ⟨gb1037, 0, none⟩) (by first | (rw [add_block]; exact hn1038_0) | (show (Addr.add _ _).block ≠ _; rw [add_block]; exact hn1038_0) | exact hn1038_0) (.int .i64 t1034)).trans hx1038_1; replace hx1038_0 := (cell_far (p := ⟨gb1037, 1, none⟩) (by first | (rw [add_block]; exact hn1038_1) | (show (Addr.add _ _).block ≠ _; rw [add_block]; exact hn1038_1) | exact hn1038_1) (.int .i64 t1035)).trans hx1038_0; replace hx1038_1 := (cell_far (p := ⟨gb1037, 1, none⟩) (by first | (rw [add_block]; exact hn1038_1) | (show (Addr.add _ _).block ≠ _; rw [add_block]; exact hn1038_1) | exact hn1038_1) (.int .i64 t1035)).trans hx1038_1; clear hn1038_0; clear hn1038_1; replace p1038 := eq_true p1038; replace q1038 := eq_true q1038))
               have n0_ : Aside0 (((w28.setCell ⟨gb1037, 0, none⟩ (.int .i64 t1034)).setCell ⟨gb1037, 1, none⟩ (.int .i64 t1035)).heap[gb1029]? = some (.cells #[.int .i64 a0_0, .int .i64 a0_1, .slice (some ad1038) l0_2.length c0_2] 30 (0, 0))) := ⟨by (with_reducible repeat (first | refine blk_drewN ?_ _ | refine blk_drew ?_ | refine blk_alloc ?_ _)); refine blk_far ?_ NB1029_1037.out _; (with_reducible repeat (first | refine blk_drewN ?_ _ | refine blk_drew ?_ | refine blk_alloc ?_ _)); refine blk_far ?_ NB1029_1037.out _; (with_reducible repeat (first | refine blk_drewN ?_ _ | refine blk_drew ?_ | refine blk_alloc ?_ _)); exact BK1029.out⟩; have n1_ : Aside0 (((w28.setCell ⟨gb1037, 0, none⟩ (.int .i64 t1034)).setCell ⟨gb1037, 1, none⟩ (.int .i64 t1035)).heap[gb1037]? = some (.cells #[.int .i64 t1034, .int .i64 t1035] 25 (0, 0))) := ⟨by (with_reducible repeat (first | refine blk_drewN ?_ _ | refine blk_drew ?_ | refine blk_alloc ?_ _)); refine blk_put (cs := #[.int .i64 t1034, .int .i64 0]) ?_ 1 _ rfl; (with_reducible repeat (first | refine blk_drewN ?_ _ | refine blk_drew ?_ | refine blk_alloc ?_ _)); refine blk_put (cs := #[.int .i64 0, .int .i64 0]) ?_ 0 _ rfl; (with_reducible repeat (first | refine blk_drewN ?_ _ | refine blk_drew ?_ | refine blk_alloc ?_ _)); exact BK1037.out⟩; have n2_ : Aside0 (Below w.heap.size w ((w28.setCell ⟨gb1037, 0, none⟩ (.int .i64 t1034)).setCell ⟨gb1037, 1, none⟩ (.int .i64 t1035))) := ⟨hb2_ HB.out GE1029.out GE1037.out⟩; (try clear BK1029)
               (try clear BK1037); (try clear HB); generalize ((w28.setCell ⟨gb1037, 0, none⟩ (.int .i64 t1034)).setCell ⟨gb1037, 1, none⟩ (.int .i64 t1035)) = w32 at n0_ n1_ n2_ ⊢
               have BK1029 := n0_; have BK1037 := n1_; have HB := n2_; clear n0_ n1_ n2_; have n0_ := am_ (blk_drew BK1029.out); have n1_ := am_ (blk_drew BK1037.out); have n2_ := am_ (below_drew1 HB.out); clear BK1029; clear BK1037; clear HB; have BK1029 := n0_; have BK1037 := n1_; have HB := n2_; clear n0_ n1_ n2_; refine start_ (n := 6) (S := fun w' => w'.cell? ⟨gb1037, 0, none⟩ = some (.int .i64 t1034) ∧ w'.cell? ⟨gb1037, 1, none⟩ = some (.int .i64 t1035)) (ds := []) #[false, false, false, false, false, false] (by kernel_rfl) rfl rfl ⟨(blk_cell BK1037.out 0).trans rfl, (blk_cell BK1037.out 1).trans rfl⟩ (fun hHeld => ?_)
               generalize w32.drew = w33 at BK1029 BK1037 HB hHeld ⊢
               refine pure_ (i := 0) (N := some 68) (v := ?_) (a' := ?_) #[true, false, false, false, false, false] rfl rfl (by kernel_rfl) (fun _ _ _ h => h) (Or.inl ⟨by rfl, ?_⟩) ?_ ?_
               rotate_left
               ·intro w'; go_simp
                with_reducible rfl
               rotate_left
               ·simp only [Act.put, List.setIfInBounds_toArray, List.set_cons_zero, List.set_cons_succ, i64_w, i32_w]
                rfl
               refine pure_ (i := 1) (N := some 69) (v := ?_) (a' := ?_) #[true, true, false, false, false, false] rfl rfl (by kernel_rfl) (fun _ _ _ h => h) (Or.inl ⟨by rfl, ?_⟩) ?_ ?_
               rotate_left
               ·intro w'; go_simp
                with_reducible rfl
               rotate_left
               ·simp only [Act.put, List.setIfInBounds_toArray, List.set_cons_zero, List.set_cons_succ, i64_w, i32_w]
                rfl
               refine pure_ (i := 3) (N := some 6) (v := ?_) (a' := ?_) #[true, true, false, true, false, false] rfl rfl (by kernel_rfl) (fun _ _ _ h => h) (Or.inl ⟨by rfl, ?_⟩) ?_ ?_
               rotate_left
               ·intro w'; go_simp
                with_reducible rfl
               rotate_left
               ·simp only [Act.put, List.setIfInBounds_toArray, List.set_cons_zero, List.set_cons_succ, i64_w, i32_w]
                rfl
               refine take_ (i := 2) (N := some 70) (v := ?_) (a' := ?_) #[true, true, true, true, false, false] rfl rfl (by kernel_rfl) (fun _ _ _ h => h) (Or.inl ⟨by rfl, ?_⟩) hHeld ?_ ?_
               rotate_left
               ·rintro w' ⟨s0, s1⟩; go_simp
                with_reducible rfl
               rotate_left
               ·simp only [Act.put, List.setIfInBounds_toArray, List.set_cons_zero, List.set_cons_succ, i64_w, i32_w]
                rfl
               refine pure_ (i := 4) (N := some 7) (v := ?_) (a' := ?_) #[true, true, true, true, true, false] rfl rfl (by kernel_rfl) (fun _ _ _ h => h) (Or.inl ⟨by rfl, ?_⟩) ?_ ?_
               rotate_left
               ·intro w'; go_simp
                with_reducible rfl
               rotate_left
               ·simp only [Act.put, List.setIfInBounds_toArray, List.set_cons_zero, List.set_cons_succ, i64_w, i32_w]
                rfl
               refine pure_ (i := 5) (N := some 8) (v := ?_) (a' := ?_) #[true, true, true, true, true, true] rfl rfl (by kernel_rfl) (fun _ _ _ h => h) (Or.inl ⟨by rfl, ?_⟩) ?_ ?_
               rotate_left
               ·intro w'; go_simp
                with_reducible rfl
               rotate_left
               ·simp only [Act.put, List.setIfInBounds_toArray, List.set_cons_zero, List.set_cons_succ, i64_w, i32_w]
                rfl
               refine done_ (by kernel_rfl) ?_
               try go_wp2
               go_ret3
               exact ⟨er_, hb2_ HB.out GE1029.out GE1037.out⟩
              ·rw [if_neg c25] at H; have c25b0 : decide (a2 ≤ t1034) = false := decide_eq_false c25; clear c25; have H' := Aside0.mk H; clear H; have hcz34_0 := bc_ BK1029.out 0 (.int .i64 a0_0) rfl; have hcz34_1 := bc_ BK1029.out 1 (.int .i64 a0_1) rfl; have hcz34_2 := bc_ BK1029.out 2 (.slice A0_2 l0_2.length c0_2) rfl; have hfz34_0 := blk_frozen BK1029.out 0; have hfz34_1 := blk_frozen BK1029.out 1; have hfz34_2 := blk_frozen BK1029.out 2
               go_wp2_with (first | ((with_reducible refine gate_callee (f := 26) rfl ?_); refine gl_ Try.func26 #[.agg #[.int .i64 a0_0, .int .i64 a0_1, .slice A0_2 l0_2.length c0_2], .int .i64 x11_3, .int .i64 x10_2] ?_; (with_reducible refine (spec_Occurrence.calls k3 a0_0 a0_1 _ _ l0_2 x11_3 x10_2 t1034 t1035 true _ ?side1 ?side2 A21.out).mono ?_); (case side1 => exact kc_ (Kd.C_below HR0_2.out HB.out)); (case side2 => exact HC0_2.out); rintro e w35 ⟨rfl, hb⟩; refine ⟨_, rfl, ?_⟩; replace BK1029 := am_ (bb_ BK1029.out hb); replace HB := am_ (below_step (hb1_ HB.out GE1029.out) hb); (try clear hb); (try clear hb2); (try clear hk); (try clear hi)) | ((with_reducible refine gate_dst (N := 12) rfl ?_); refine be_ (N := 12) (cs := #[.int .i64 0, .int .i64 0]) (t := 25) ?_; intro gb1037 hg w36 hbox hb; have BK1037 := am_ (hbox); have GW1037 := am_ (hy_ hg (hb1_ HB.out GE1029.out) : w.heap.size ≤ gb1037); have GE1037 := GW1037; have NB1029_1037 := am_ (bl_ hg BK1029.out : gb1029 ≠ gb1037); have NB1037_1029 := nb_ NB1029_1037; replace BK1029 := am_ (bb_ BK1029.out hb); replace HB := am_ (below_step (hb1_ HB.out GE1029.out) hb); clear hb hbox hg; have hnb37 := NB1037_1029.out; have hnc37 := NB1029_1037.out; obtain ⟨hcz38_0, hcz38_1, hfz38_0, hfz38_1⟩ := bc2_ BK1037.out; obtain ⟨hcz39_0, hcz39_1, hcz39_2, hfz39_0, hfz39_1, hfz39_2⟩ := bc3_ BK1029.out; have p1038 : 0 ≤ (x11_3 : Int) := of_decide_eq_true (by first | (with_reducible assumption) | assumption); have q1038 : x11_3 < (l0_2.length : Int) := of_decide_eq_true (by first | (with_reducible assumption) | assumption); obtain ⟨ad1038, e1038, hx1038_0, hx1038_1⟩ := at_T42 HR0_2.out x11_3 p1038 q1038; cases e1038; have hn1038_0 : ad1038.block ≠ gb1037 := Nat.ne_of_lt (Nat.lt_of_lt_of_le (by have := World.block_lt_of_cell? _ _ hx1038_0; first | rwa [add_block] at this | exact this) GW1037.out); have hn1038_1 : ad1038.block ≠ gb1037 := Nat.ne_of_lt (Nat.lt_of_lt_of_le (by have := World.block_lt_of_cell? _ _ hx1038_0; first | rwa [add_block] at this | exact this) GW1037.out); replace hx1038_0 := (HB.out.cell (World.block_lt_of_cell? w _ hx1038_0)).trans hx1038_0; replace hx1038_1 := (HB.out.cell (World.block_lt_of_cell? w _ hx1038_1)).trans hx1038_1; replace hx1038_0 := (cell_far (p := ⟨gb1037, 0, none⟩) (by first | (rw [add_block]; exact hn1038_0) | (show (Addr.add _ _).block ≠ _; rw [add_block]; exact hn1038_0) | exact hn1038_0) (.int .i64 t1034)).trans hx1038_0; replace hx1038_1 := (cell_far (p := ⟨gb1037, 0, none⟩) (by first | (rw [add_block]; exact hn1038_0) | (show (Addr.add _ _).block ≠ _; rw [add_block]; exact hn1038_0) | exact hn1038_0) (.int .i64 t1034)).trans hx1038_1; replace hx1038_0 := (cell_far (p := ⟨gb1037, 1, none⟩) (by first | (rw [add_block]; exact hn1038_1) | (show (Addr.add _ _).block ≠ _; rw [add_block]; exact hn1038_1) | exact hn1038_1) (.int .i64 t1035)).trans hx1038_0; replace hx1038_1 := (cell_far (p := ⟨gb1037, 1, none⟩) (by first | (rw [add_block]; exact hn1038_1) | (show (Addr.add _ _).block ≠ _; rw [add_block]; exact hn1038_1) | exact hn1038_1) (.int .i64 t1035)).trans hx1038_1; clear hn1038_0; clear hn1038_1; replace p1038 := eq_true p1038; replace q1038 := eq_true q1038))
               go_roundg k3
               case measure => have := HJ3.out; have := HK2.out; have := HK3.out; omega
               case rel => exact ⟨(wrap64 (x11_3 + 1)), (by first | rfl | (simp; done) | (simp [*]; done)), H', ⟨by have := HJ3.out; have := HK2.out; have := HK3.out; omega⟩, ⟨by (with_reducible repeat (first | refine blk_drewN ?_ _ | refine blk_drew ?_ | refine blk_alloc ?_ _)); refine blk_far ?_ NB1029_1037.out _; (with_reducible repeat (first | refine blk_drewN ?_ _ | refine blk_drew ?_ | refine blk_alloc ?_ _)); refine blk_far ?_ NB1029_1037.out _; (with_reducible repeat (first | refine blk_drewN ?_ _ | refine blk_drew ?_ | refine blk_alloc ?_ _)); exact BK1029.out⟩, ⟨hb2_ HB.out GE1029.out GE1037.out⟩⟩
             ·rw [if_neg c24] at H; have c24b0 : (((rd_T42 l0_2 x11_3).f0) == a1) = false := beq_eq_false_iff_ne.mpr c24; have c24b1 : (((rd_T42 l0_2 x11_3).f0) != a1) = true := bne_iff_ne.mpr c24; have H' := Aside0.mk H; clear H; have hcz40_0 := bc_ BK1029.out 0 (.int .i64 a0_0) rfl; have hcz40_1 := bc_ BK1029.out 1 (.int .i64 a0_1) rfl; have hcz40_2 := bc_ BK1029.out 2 (.slice A0_2 l0_2.length c0_2) rfl; have hfz40_0 := blk_frozen BK1029.out 0; have hfz40_1 := blk_frozen BK1029.out 1; have hfz40_2 := blk_frozen BK1029.out 2
              go_wp2_with (first | ((with_reducible refine gate_callee (f := 26) rfl ?_); refine gl_ Try.func26 #[.agg #[.int .i64 a0_0, .int .i64 a0_1, .slice A0_2 l0_2.length c0_2], .int .i64 x11_3, .int .i64 x10_2] ?_; (with_reducible refine (spec_Occurrence.calls k3 a0_0 a0_1 _ _ l0_2 x11_3 x10_2 t1034 t1035 true _ ?side1 ?side2 A21.out).mono ?_); (case side1 => exact kc_ (Kd.C_below HR0_2.out HB.out)); (case side2 => exact HC0_2.out); rintro e w41 ⟨rfl, hb⟩; refine ⟨_, rfl, ?_⟩; replace BK1029 := am_ (bb_ BK1029.out hb); replace HB := am_ (below_step (hb1_ HB.out GE1029.out) hb); (try clear hb); (try clear hb2); (try clear hk); (try clear hi)) | ((with_reducible refine gate_dst (N := 12) rfl ?_); refine be_ (N := 12) (cs := #[.int .i64 0, .int .i64 0]) (t := 25) ?_; intro gb1037 hg w42 hbox hb; have BK1037 := am_ (hbox); have GW1037 := am_ (hy_ hg (hb1_ HB.out GE1029.out) : w.heap.size ≤ gb1037); have GE1037 := GW1037; have NB1029_1037 := am_ (bl_ hg BK1029.out : gb1029 ≠ gb1037); have NB1037_1029 := nb_ NB1029_1037; replace BK1029 := am_ (bb_ BK1029.out hb); replace HB := am_ (below_step (hb1_ HB.out GE1029.out) hb); clear hb hbox hg; have hnb43 := NB1037_1029.out; have hnc43 := NB1029_1037.out; obtain ⟨hcz44_0, hcz44_1, hfz44_0, hfz44_1⟩ := bc2_ BK1037.out; obtain ⟨hcz45_0, hcz45_1, hcz45_2, hfz45_0, hfz45_1, hfz45_2⟩ := bc3_ BK1029.out; have p1038 : 0 ≤ (x11_3 : Int) := of_decide_eq_true (by first | (with_reducible assumption) | assumption); have q1038 : x11_3 < (l0_2.length : Int) := of_decide_eq_true (by first | (with_reducible assumption) | assumption); obtain ⟨ad1038, e1038, hx1038_0, hx1038_1⟩ := at_T42 HR0_2.out x11_3 p1038 q1038; cases e1038; have hn1038_0 : ad1038.block ≠ gb1037 := Nat.ne_of_lt (Nat.lt_of_lt_of_le (by have := World.block_lt_of_cell? _ _ hx1038_0; first | rwa [add_block] at this | exact this) GW1037.out); have hn1038_1 : ad1038.block ≠ gb1037 := Nat.ne_of_lt (Nat.lt_of_lt_of_le (by have := World.block_lt_of_cell? _ _ hx1038_0; first | rwa [add_block] at this | exact this) GW1037.out); replace hx1038_0 := (HB.out.cell (World.block_lt_of_cell? w _ hx1038_0)).trans hx1038_0; replace hx1038_1 := (HB.out.cell (World.block_lt_of_cell? w _ hx1038_1)).trans hx1038_1; replace hx1038_0 := (cell_far (p := ⟨gb1037, 0, none⟩) (by first | (rw [add_block]; exact hn1038_0) | (show (Addr.add _ _).block ≠ _; rw [add_block]; exact hn1038_0) | exact hn1038_0) (.int .i64 t1034)).trans hx1038_0; replace hx1038_1 := (cell_far (p := ⟨gb1037, 0, none⟩) (by first | (rw [add_block]; exact hn1038_0) | (show (Addr.add _ _).block ≠ _; rw [add_block]; exact hn1038_0) | exact hn1038_0) (.int .i64 t1034)).trans hx1038_1; replace hx1038_0 := (cell_far (p := ⟨gb1037, 1, none⟩) (by first | (rw [add_block]; exact hn1038_1) | (show (Addr.add _ _).block ≠ _; rw [add_block]; exact hn1038_1) | exact hn1038_1) (.int .i64 t1035)).trans hx1038_0; replace hx1038_1 := (cell_far (p := ⟨gb1037, 1, none⟩) (by first | (rw [add_block]; exact hn1038_1) | (show (Addr.add _ _).block ≠ _; rw [add_block]; exact hn1038_1) | exact hn1038_1) (.int .i64 t1035)).trans hx1038_1; clear hn1038_0; clear hn1038_1; replace p1038 := eq_true p1038; replace q1038 := eq_true q1038))
              go_roundg k3
              case measure => have := HJ3.out; have := HK2.out; have := HK3.out; omega
              case rel => exact ⟨(wrap64 (x11_3 + 1)), (by first | rfl | (simp; done) | (simp [*]; done)), H', ⟨by have := HJ3.out; have := HK2.out; have := HK3.out; omega⟩, ⟨by (with_reducible repeat (first | refine blk_drewN ?_ _ | refine blk_drew ?_ | refine blk_alloc ?_ _)); refine blk_far ?_ NB1029_1037.out _; (with_reducible repeat (first | refine blk_drewN ?_ _ | refine blk_drew ?_ | refine blk_alloc ?_ _)); refine blk_far ?_ NB1029_1037.out _; (with_reducible repeat (first | refine blk_drewN ?_ _ | refine blk_drew ?_ | refine blk_alloc ?_ _)); exact BK1029.out⟩, ⟨hb2_ HB.out GE1029.out GE1037.out⟩⟩
            ·rw [if_neg c23] at H; exact absurd H (by simp)
           ·replace c22 := Bool.eq_false_iff.mpr c22; subst c22; replace H := i0_ H; have H' := Aside0.mk H; clear H; have hcz46_0 := bc_ BK1029.out 0 (.int .i64 a0_0) rfl; have hcz46_1 := bc_ BK1029.out 1 (.int .i64 a0_1) rfl; have hcz46_2 := bc_ BK1029.out 2 (.slice A0_2 l0_2.length c0_2) rfl; have hfz46_0 := blk_frozen BK1029.out 0; have hfz46_1 := blk_frozen BK1029.out 1; have hfz46_2 := blk_frozen BK1029.out 2
            go_wp2_with (first | ((with_reducible refine gate_callee (f := 26) rfl ?_); refine gl_ Try.func26 #[.agg #[.int .i64 a0_0, .int .i64 a0_1, .slice A0_2 l0_2.length c0_2], .int .i64 x11_3, .int .i64 x10_2] ?_; (with_reducible refine (spec_Occurrence.calls k3 a0_0 a0_1 _ _ l0_2 x11_3 x10_2 t1034 t1035 false _ ?side1 ?side2 A21.out).mono ?_); (case side1 => exact kc_ (Kd.C_below HR0_2.out HB.out)); (case side2 => exact HC0_2.out); rintro e w47 ⟨rfl, hb⟩; refine ⟨_, rfl, ?_⟩; replace BK1029 := am_ (bb_ BK1029.out hb); replace HB := am_ (below_step (hb1_ HB.out GE1029.out) hb); (try clear hb); (try clear hb2); (try clear hk); (try clear hi)) | ((with_reducible refine gate_dst (N := 12) rfl ?_); refine be_ (N := 12) (cs := #[.int .i64 0, .int .i64 0]) (t := 25) ?_; intro gb1037 hg w48 hbox hb; have BK1037 := am_ (hbox); have GW1037 := am_ (hy_ hg (hb1_ HB.out GE1029.out) : w.heap.size ≤ gb1037); have GE1037 := GW1037; have NB1029_1037 := am_ (bl_ hg BK1029.out : gb1029 ≠ gb1037); have NB1037_1029 := nb_ NB1029_1037; replace BK1029 := am_ (bb_ BK1029.out hb); replace HB := am_ (below_step (hb1_ HB.out GE1029.out) hb); clear hb hbox hg; have hnb49 := NB1037_1029.out; have hnc49 := NB1029_1037.out; obtain ⟨hcz50_0, hcz50_1, hfz50_0, hfz50_1⟩ := bc2_ BK1037.out))
            go_roundg k3
            case measure => have := HJ3.out; have := HK2.out; have := HK3.out; omega
            case rel => exact ⟨(wrap64 (x11_3 + 1)), (by first | rfl | (simp; done) | (simp [*]; done)), H', ⟨by have := HJ3.out; have := HK2.out; have := HK3.out; omega⟩, ⟨by (with_reducible repeat (first | refine blk_drewN ?_ _ | refine blk_drew ?_ | refine blk_alloc ?_ _)); refine blk_far ?_ NB1029_1037.out _; (with_reducible repeat (first | refine blk_drewN ?_ _ | refine blk_drew ?_ | refine blk_alloc ?_ _)); refine blk_far ?_ NB1029_1037.out _; (with_reducible repeat (first | refine blk_drewN ?_ _ | refine blk_drew ?_ | refine blk_alloc ?_ _)); exact BK1029.out⟩, ⟨hb2_ HB.out GE1029.out GE1037.out⟩⟩
          ·rw [if_neg c20] at H; have c20b0 : decide (x11_3 < (l0_2.length : Int)) = false := decide_eq_false c20; clear c20; have H' := Aside0.mk H; clear H; have hcz51_0 := bc_ BK1029.out 0 (.int .i64 a0_0) rfl; have hcz51_1 := bc_ BK1029.out 1 (.int .i64 a0_1) rfl; have hcz51_2 := bc_ BK1029.out 2 (.slice A0_2 l0_2.length c0_2) rfl; have hfz51_0 := blk_frozen BK1029.out 0; have hfz51_1 := blk_frozen BK1029.out 1; have hfz51_2 := blk_frozen BK1029.out 2; go_wp2
           go_roundg k3
           case measure => have := HJ3.out; have := HK2.out; have := HK3.out; omega
           case rel => exact ⟨(wrap64 (x10_2 + 1)), (by first | rfl | (simp; done) | (simp [*]; done)), H', ⟨by have := HJ3.out; have := HK2.out; have := HK3.out; omega⟩, ⟨bk_ BK1029.out⟩, ⟨hb1_ HB.out GE1029.out⟩⟩
       ·rw [if_neg c19] at H; have c19b0 : decide (x10_2 ≤ (wrap64 (t1033 + 1))) = false := decide_eq_false c19; clear c19; simp only [Option.some.injEq, Prod.mk.injEq] at H
        obtain ⟨rfl, rfl, rfl⟩ := H; go_wp2
        go_ret3
        exact ⟨er_, hb1_ HB.out GE1029.out⟩
end Go.Proofs.Ytllpmpfchidhoaa.P

namespace Go.Proofs.Ytllpmpfchidhoaa.P
open Go.RowKit Go.Proofs.YtllpmpfchidhoaaW.PrintWords Go.Proofs.YtllpmpfchidhoaaW.PrintLast Go.Proofs.YtllpmpfchidhoaaW.PrintMore
attribute [local go_sem] max2_int min2_int max_two min_two max_three min_three max_four min_four
set_option linter.unusedVariables false
set_option linter.unusedSimpArgs false
def slices_Clone_Slot.f (l0 : List (S42)) : Option ((List (S42))) := (some (([] : List (S42)) : List (S42))).bind fun y1039 => (if y1039.length + l0.length < 8796093022208 then (some (y1039 ++ l0)) else (none))
set_option maxHeartbeats 8000000 in
set_option maxRecDepth 100000 in
theorem slices_Clone_Slot.calls_some (a0_ : Addr) (c0 : Nat) (l0 : List (S42)) (r : List (S42)) (w : World) (hr0 : Kd.C k42 w (some a0_) l0.length l0) (hc0 : l0.length ≤ c0) (h : slices_Clone_Slot.f l0 = some r) :
  Calls Try.prog 83 #[.slice (some a0_) l0.length c0] w fun e w' => ∃ v0_ : Value, e = .returned (v0_) ∧ Kd.R k42 42 w' w.heap.size (fun _ => True) v0_ r ∧ Below w.heap.size w w' := by
 have HR0 := Aside0.mk hr0; have HC0 := Aside0.mk hc0; clear hr0 hc0; have HB := am_ (Below.refl w.heap.size w); have H : ((some (([] : List (S42)) : List (S42))).bind fun y1039 => (if y1039.length + l0.length < 8796093022208 then (some (y1039 ++ l0)) else (none))) = some r := h; clear h; obtain ⟨y1039, hy1039⟩ : ∃ y_ : List (S42), y_ = (([] : List (S42))) := ⟨_, rfl⟩; replace H : (if y1039.length + l0.length < 8796093022208 then (some (y1039 ++ l0)) else (none)) = some r := by first | (rw [hy1039]; with_reducible exact H) | (have H2_ := (Option.bind_some _ _).symm.trans H; rw [hy1039]; with_reducible exact H2_) | (have H2_ := (Option.bind_some _ _).symm.trans H; with_reducible exact H2_) | with_reducible exact H | (rw [hy1039]; exact H) | exact H
 have Ny1039 := Aside0.mk hy1039; clear hy1039; by_cases c2 : y1039.length + l0.length < 8796093022208
 ·rw [if_pos c2] at H; have LMc2 := Aside0.mk c2; clear c2; obtain ⟨y1042, hy1042⟩ : ∃ y_ : List (S42), y_ = (y1039 ++ l0) := ⟨_, rfl⟩; replace H : (some y1042) = some r := by first | (rw [hy1042]; with_reducible exact H) | (have H2_ := (Option.bind_some _ _).symm.trans H; rw [hy1042]; with_reducible exact H2_) | (have H2_ := (Option.bind_some _ _).symm.trans H; with_reducible exact H2_) | with_reducible exact H | (rw [hy1042]; exact H) | exact H
  have Ny1042 := Aside0.mk hy1042; clear hy1042; obtain rfl := Option.some.inj H; have hq_ : ∀ W : World, Sem.run Try.prog (binOp .eql 28 (.slice (some a0_) l0.length c0) (.slice none 0 0)) W = .ok (.bool false) W := fun W => run_eql_slice_nil W 28 42 (some a0_) l0.length c0 Try.underlying28
  go_enter Try.func83, Try.ntmps83
  go_wp2_with (first | ((with_reducible refine gate_dst (N := 5) rfl ?_); refine Kd.R_lit k42 _ 42 ?hg (N := 5) ?hd (xs := ([] : List (S42))) (inner := []) (ok := fun _ => True) (okp := fun _ => True) ?hr ?hp (fun _ hk => hk) trivial (Below.refl _ _) (Nat.le_refl _) (by simp) ?_; (case hd => rfl); (case hg => rfl); (case hr => first|(go_simp;done)|(go_simp;rfl)); (case hp => exact (Reps.none _ _)); intro v1040 w3 ho4 hb hg_ hnew_; clear hg_ hnew_; (first | rw [← Ny1039.out] at ho4 | (simp only [Int.reduceToNat] at ho4; rw [← Ny1039.out] at ho4)); have HO1041 := am_ (Kd.R_lower ho4 (below_size (hb_ HB.out))); replace HB := am_ (below_step (hb_ HB.out) hb); clear hb ho4) | ((with_reducible refine gate_builtin (b := .append) (xs := #[.tmp 5, .tmp 6]) rfl ?_); at_builtin; refine Kd.R_append_rows k42 (w0 := w) w.heap.size rfl (.tmp 5) (.tmp 6) 28 42 (.agg #[(.int .i64 0), (.int .i64 0)]) 16 rfl Try.underlying28 info42 rfl (by decide) (by omega) v1040 y1039 l0 _ _ _ (fun _ => True) (fun _ => False) rfl rfl ?aO ?aR (fun _ _ h => h) (fun _ h => h.elim) ?aF ?aB ?aS ?aL ?_; (case aR => repeat (first | exact (Kd.C_below HR0.out HB.out) | (with_reducible refine Kd.C_alloc ?_ _) | (with_reducible refine Kd.C_drewN ?_ _) | (with_reducible refine Kd.C_drew ?_))); (case aB => exact (hb_ HB.out)); (case aF => exact (fun _ _ => trivial)); (case aO => exact (by (with_reducible repeat (first | apply Kd.R_alloc | apply Kd.R_drewN | apply Kd.R_drew)); exact HO1041.out)); (case aS => exact (below_size (hb_ HB.out))); (case aL => have := LMc2.out; omega); intro v1043 w5 ho hb hg hat; rw [← Ny1042.out] at ho; have n0_ := am_ (hb); have n1_ := am_ (ho); clear HB; clear HO1041; have HB := n0_; have HO1044 := n1_; clear n0_ n1_; clear ho hb hg hat))
  go_ret
  exact ⟨_, er_, by (with_reducible repeat (first | apply Kd.R_alloc | apply Kd.R_drewN | apply Kd.R_drew)); exact HO1044.out, hb_ HB.out⟩
 ·rw [if_neg c2] at H; exact absurd H (by simp)
set_option maxHeartbeats 8000000 in
set_option maxRecDepth 100000 in
theorem slices_Clone_Slot.calls (A0 : Option Addr) (c0 : Nat) (l0 : List (S42)) (r : List (S42)) (w : World) (hr0 : Kd.C k42 w A0 l0.length l0) (hc0 : l0.length ≤ c0) (h : slices_Clone_Slot.f l0 = some r) :
  Calls Try.prog 83 #[.slice A0 l0.length c0] w fun e w' => ∃ v0_ : Value, e = .returned (v0_) ∧ Kd.R k42 42 w' w.heap.size (fun _ => True) v0_ r ∧ Below w.heap.size w w' := by
 cases A0 with
 | some a0_ => exact slices_Clone_Slot.calls_some a0_ c0 l0 r w hr0 hc0 h
 | none =>
  have hn : l0 = [] := by
   rcases l0 with _ | ⟨x, xs⟩
   ·rfl
   ·obtain ⟨_, _, h3⟩ := hr0; obtain ⟨a, ha, _⟩ := h3 (by simp)
    cases ha
  subst hn; obtain rfl : r = [] := by
   unfold slices_Clone_Slot.f at h
   simp at h
   exact h
  clear hr0 hc0 h; have HB := am_ (Below.refl w.heap.size w); have hq_ : ∀ W : World, Sem.run Try.prog (binOp .eql 28 (.slice none 0 c0) (.slice none 0 0)) W = .ok (.bool true) W := fun W => run_eql_slice_nil W 28 42 none 0 c0 Try.underlying28
  go_enter Try.func83, Try.ntmps83
  go_wp2_with (fail)
  go_ret
  exact ⟨_, rfl, Kd.R_nil _ _ _ _ _, hb_ HB.out⟩
def impl_PlanMoved.f (k : Nat) (a0_0 : Int) (a0_1 : Int) (l0_2 : List (S42)) (a1 : Int) : Option (Int × Int × (List (S42)) × Bool) := (impl_PlanOk.f k a0_0 a0_1 l0_2).bind fun t1047 => (if t1047 = true then ((impl_in.f a1 (-1000000000000) 1000000000000).bind fun t1048 => (if t1048 = true then ((impl_isTime.f (wrap64 (a0_0 + a1))).bind fun t1049 => (if t1049 = true then ((slices_Clone_Slot.f l0_2).bind fun t1050 => (some (wrap64 (a0_0 + a1), a0_1, t1050, true))) else (some (0, 0, ([] : List (S42)), false)))) else (some (0, 0, ([] : List (S42)), false)))) else (some (0, 0, ([] : List (S42)), false)))
def impl_PlanMoved.T3 : Bool × List (List Nat × List Nat) := (true, [([], []), ([0], [0]), ([], []), ([1, 2], [1, 2]), ([], []), ([4], [4]), ([], []), ([6], [6]), ([7], [7]), ([3, 5, 8], [3, 5, 8]), ([9, 8, 0, 1, 2, 3, 4, 5, 6, 7, 8, 9], [9]), ([10, 0, 1, 2, 3, 4, 5, 6, 7, 8, 9, 10], [])])
def impl_PlanMoved.B3 : List Nat := [0, 1, 0, 7, 0, 16, 0, 64, 192, 511, 1023, 2047]
theorem impl_PlanMoved.tab3 : rtab .any (opsOf Try.f35 3) = impl_PlanMoved.T3 := by kernel_rfl
theorem impl_PlanMoved.bits3 : waitsOk impl_PlanMoved.T3.2 impl_PlanMoved.B3 = true := by kernel_rfl
set_option maxHeartbeats 8000000 in
set_option maxRecDepth 100000 in
theorem impl_PlanMoved.calls (k : Nat) (a0_0 : Int) (a0_1 : Int) (A0_2 : Option Addr) (c0_2 : Nat) (l0_2 : List (S42)) (a1 : Int) (r1 : Int) (r2 : Int) (r3 : List (S42)) (r4 : Bool) (w : World) (hr0_2 : Kd.C k42 w A0_2 l0_2.length l0_2) (hc0_2 : l0_2.length ≤ c0_2) (h : impl_PlanMoved.f k a0_0 a0_1 l0_2 a1 = some (r1, r2, r3, r4)) :
  Calls Try.prog 35 #[.agg #[.int .i64 a0_0, .int .i64 a0_1, .slice A0_2 l0_2.length c0_2], .int .i64 a1] w fun e w' => ∃ v2_ : Value, e = .returned (.tuple #[.agg #[.int .i64 r1, .int .i64 r2, v2_], .bool r4]) ∧ Kd.R k42 42 w' w.heap.size (fun _ => True) v2_ r3 ∧ Below w.heap.size w w' := by
 have hu30 := Try.underlying30; have HR0_2 := Aside0.mk hr0_2; have HC0_2 := Aside0.mk hc0_2; clear hr0_2 hc0_2; have HB := am_ (Below.refl w.heap.size w); have H : ((impl_PlanOk.f k a0_0 a0_1 l0_2).bind fun t1047 => (if t1047 = true then ((impl_in.f a1 (-1000000000000) 1000000000000).bind fun t1048 => (if t1048 = true then ((impl_isTime.f (wrap64 (a0_0 + a1))).bind fun t1049 => (if t1049 = true then ((slices_Clone_Slot.f l0_2).bind fun t1050 => (some (wrap64 (a0_0 + a1), a0_1, t1050, true))) else (some (0, 0, ([] : List (S42)), false)))) else (some (0, 0, ([] : List (S42)), false)))) else (some (0, 0, ([] : List (S42)), false)))) = some (r1, r2, r3, r4) := h; clear h; obtain ⟨t1047, A3, H⟩ := ab_ H; by_cases c4 : t1047 = true
 ·subst c4; replace H := i1_ H; obtain ⟨t1048, A5, H⟩ := ab_ H; by_cases c6 : t1048 = true
  ·subst c6; replace H := i1_ H; obtain ⟨t1049, A7, H⟩ := ab_ H; by_cases c8 : t1049 = true
   ·subst c8; replace H := i1_ H; obtain ⟨t1050, A9, H⟩ := ab_ H; simp only [Option.some.injEq, Prod.mk.injEq] at H
    obtain ⟨rfl, rfl, rfl, rfl⟩ := H; go_enter Try.func35, Try.ntmps35
    try go_wp2_with (first | ((with_reducible refine gate_dst (N := 2) rfl ?_); refine be_ (N := 2) (cs := #[.int .i64 a0_0, .int .i64 a0_1, .slice A0_2 l0_2.length c0_2]) (t := 30) ?_; intro gb1045 hg w10 hbox hb; have BK1045 := am_ (hbox); have GW1045 := am_ (hy_ hg (hb_ HB.out) : w.heap.size ≤ gb1045); have GE1045 := GW1045; replace HB := am_ (below_step (hb_ HB.out) hb); clear hb hbox hg) | ((with_reducible refine gate_dst (N := 4) rfl ?_); refine be_ (N := 4) (cs := #[.int .i64 0, .int .i64 0, .slice none 0 0]) (t := 30) ?_; intro gb1046 hg w11 hbox hb; have BK1046 := am_ (hbox); have GW1046 := am_ (hy_ hg (hb1_ HB.out GE1045.out) : w.heap.size ≤ gb1046); have GE1046 := GW1046; have NB1045_1046 := am_ (bl_ hg BK1045.out : gb1045 ≠ gb1046); have NB1046_1045 := nb_ NB1045_1046; replace BK1045 := am_ (bb_ BK1045.out hb); replace HB := am_ (below_step (hb1_ HB.out GE1045.out) hb); clear hb hbox hg; have hnb12 := NB1045_1046.out; have hnc12 := NB1046_1045.out; obtain ⟨hcz13_0, hcz13_1, hcz13_2, hfz13_0, hfz13_1, hfz13_2⟩ := bc3_ BK1045.out) | ((with_reducible refine gate_callee (f := 34) rfl ?_); refine gl_ Try.func34 #[.agg #[.int .i64 a0_0, .int .i64 a0_1, .slice A0_2 l0_2.length c0_2]] ?_; (with_reducible refine (impl_PlanOk.calls k a0_0 a0_1 _ _ l0_2 true _ ?side1 ?side2 A3.out).mono ?_); (case side1 => exact kc_ (Kd.C_below HR0_2.out HB.out)); (case side2 => exact HC0_2.out); rintro e w14 ⟨rfl, hb⟩; refine ⟨_, rfl, ?_⟩; replace BK1045 := am_ (bb_ BK1045.out hb); replace BK1046 := am_ (bb_ BK1046.out hb); replace HB := am_ (below_step (hb2_ HB.out GE1045.out GE1046.out) hb); (try clear hb); (try clear hb2); (try clear hk); (try clear hi)) | (go_at_call 48; (with_reducible refine (impl_in.calls a1 (-1000000000000) 1000000000000 true _ A5.out).mono ?_); rintro e w' ⟨rfl, ⟨nd, rfl⟩⟩; (try (rw [drewN_self w14]; generalize hq_ : World.drewN w14 _ = w14; have n0_ : Aside0 (w14.heap[gb1045]? = some (.cells #[.int .i64 a0_0, .int .i64 a0_1, .slice A0_2 l0_2.length c0_2] 30 (0, 0))) := ⟨by rw [← hq_]; exact (bk_ BK1045.out)⟩; have n1_ : Aside0 (w14.heap[gb1046]? = some (.cells #[.int .i64 0, .int .i64 0, .slice none 0 0] 30 (0, 0))) := ⟨by rw [← hq_]; exact (bk_ BK1046.out)⟩; have n2_ : Aside0 (Below w.heap.size w w14) := ⟨by rw [← hq_]; exact (hb2_ HB.out GE1045.out GE1046.out)⟩; clear BK1045 BK1046 HB hq_; have BK1045 := n0_; have BK1046 := n1_; have HB := n2_; clear n0_ n1_ n2_)); obtain ⟨hcz15_0, hcz15_1, hcz15_2, hfz15_0, hfz15_1, hfz15_2⟩ := bc3_ BK1045.out) | (go_at_call 69; (with_reducible refine (impl_isTime.calls (wrap64 (a0_0 + a1)) true _ A7.out).mono ?_); rintro e w' ⟨rfl, ⟨nd, rfl⟩⟩; (try (rw [drewN_self w14]; generalize hq_ : World.drewN w14 _ = w14; have n0_ : Aside0 (w14.heap[gb1045]? = some (.cells #[.int .i64 a0_0, .int .i64 a0_1, .slice A0_2 l0_2.length c0_2] 30 (0, 0))) := ⟨by rw [← hq_]; exact (bk_ BK1045.out)⟩; have n1_ : Aside0 (w14.heap[gb1046]? = some (.cells #[.int .i64 0, .int .i64 0, .slice none 0 0] 30 (0, 0))) := ⟨by rw [← hq_]; exact (bk_ BK1046.out)⟩; have n2_ : Aside0 (Below w.heap.size w w14) := ⟨by rw [← hq_]; exact (hb2_ HB.out GE1045.out GE1046.out)⟩; clear BK1045 BK1046 HB hq_; have BK1045 := n0_; have BK1046 := n1_; have HB := n2_; clear n0_ n1_ n2_))))
    have n0_ := am_ (blk_drew BK1045.out); have n1_ := am_ (blk_drew BK1046.out); have n2_ := am_ (below_drew1 HB.out); clear BK1045; clear BK1046; clear HB; have BK1045 := n0_; have BK1046 := n1_; have HB := n2_; clear n0_ n1_ n2_; refine start_ (n := 12) (S := fun w' => w'.cell? ⟨gb1045, 0, none⟩ = some (.int .i64 a0_0) ∧ w'.cell? ⟨gb1045, 1, none⟩ = some (.int .i64 a0_1) ∧ w'.cell? ⟨gb1045, 2, none⟩ = some (.slice A0_2 l0_2.length c0_2)) (ds := []) #[false, false, false, false, false, false, false, false, false, false, false, false] (by kernel_rfl) rfl rfl ⟨(blk_cell BK1045.out 0).trans rfl, (blk_cell BK1045.out 1).trans rfl, (blk_cell BK1045.out 2).trans rfl⟩ (fun hHeld => ?_); refine with_tabW impl_PlanMoved.tab3 impl_PlanMoved.bits3 (fun HT_ HW_ => ?_)
    generalize w14.drew = w16 at BK1045 BK1046 HB hHeld ⊢
    refine pure_ (i := 0) (N := some 23) (v := ?_) (a' := ?_) #[true, false, false, false, false, false, false, false, false, false, false, false] rfl rfl (any_of HT_.out (by kernel_rfl)) (fun _ _ _ h => h) (Or.inl ⟨by rfl, ?_⟩) ?_ ?_
    rotate_left
    ·intro w'; go_simp
     with_reducible rfl
    rotate_left
    ·simp only [Act.put, List.setIfInBounds_toArray, List.set_cons_zero, List.set_cons_succ, i64_w, i32_w]
     rfl
    refine pure_ (i := 2) (N := some 25) (v := ?_) (a' := ?_) #[true, false, true, false, false, false, false, false, false, false, false, false] rfl rfl (any_of HT_.out (by kernel_rfl)) (fun _ _ _ h => h) (Or.inl ⟨by rfl, ?_⟩) ?_ ?_
    rotate_left
    ·intro w'; go_simp
     with_reducible rfl
    rotate_left
    ·simp only [Act.put, List.setIfInBounds_toArray, List.set_cons_zero, List.set_cons_succ, i64_w, i32_w]
     rfl
    refine pure_ (i := 4) (N := some 27) (v := ?_) (a' := ?_) #[true, false, true, false, true, false, false, false, false, false, false, false] rfl rfl (any_of HT_.out (by kernel_rfl)) (fun _ _ _ h => h) (Or.inl ⟨by rfl, ?_⟩) ?_ ?_
    rotate_left
    ·intro w'; go_simp
     with_reducible rfl
    rotate_left
    ·simp only [Act.put, List.setIfInBounds_toArray, List.set_cons_zero, List.set_cons_succ, i64_w, i32_w]
     rfl
    refine pure_ (i := 6) (N := some 29) (v := ?_) (a' := ?_) #[true, false, true, false, true, false, true, false, false, false, false, false] rfl rfl (any_of HT_.out (by kernel_rfl)) (fun _ _ _ h => h) (Or.inl ⟨by rfl, ?_⟩) ?_ ?_
    rotate_left
    ·intro w'; go_simp
     with_reducible rfl
    rotate_left
    ·simp only [Act.put, List.setIfInBounds_toArray, List.set_cons_zero, List.set_cons_succ, i64_w, i32_w]
     rfl
    refine take_ (i := 1) (N := some 24) (v := ?_) (a' := ?_) #[true, true, true, false, true, false, true, false, false, false, false, false] rfl rfl (take_ofW HT_.out HW_.out (by kernel_rfl)) (fun _ _ _ h => h) (Or.inl ⟨by rfl, ?_⟩) hHeld ?_ ?_
    rotate_left
    ·rintro w' ⟨s0, s1, s2⟩; go_simp
     with_reducible rfl
    rotate_left
    ·simp only [Act.put, List.setIfInBounds_toArray, List.set_cons_zero, List.set_cons_succ, i64_w, i32_w]
     rfl
    refine pure_ (i := 3) (N := some 26) (v := ?_) (a' := ?_) #[true, true, true, true, true, false, true, false, false, false, false, false] rfl rfl (any_of HT_.out (by kernel_rfl)) (fun _ _ _ h => h) (Or.inl ⟨by rfl, ?_⟩) ?_ ?_
    rotate_left
    ·intro w'; go_simp
     with_reducible rfl
    rotate_left
    ·simp only [Act.put, List.setIfInBounds_toArray, List.set_cons_zero, List.set_cons_succ, i64_w, i32_w]
     rfl
    refine take_ (i := 5) (N := some 28) (v := ?_) (a' := ?_) #[true, true, true, true, true, true, true, false, false, false, false, false] rfl rfl (take_ofW HT_.out HW_.out (by kernel_rfl)) (fun _ _ _ h => h) (Or.inl ⟨by rfl, ?_⟩) hHeld ?_ ?_
    rotate_left
    ·rintro w' ⟨s0, s1, s2⟩; go_simp
     with_reducible rfl
    rotate_left
    ·simp only [Act.put, List.setIfInBounds_toArray, List.set_cons_zero, List.set_cons_succ, i64_w, i32_w]
     rfl
    refine take_ (i := 7) (N := some 30) (v := ?_) (a' := ?_) #[true, true, true, true, true, true, true, true, false, false, false, false] rfl rfl (take_ofW HT_.out HW_.out (by kernel_rfl)) (fun _ _ _ h => h) (Or.inl ⟨by rfl, ?_⟩) hHeld ?_ ?_
    rotate_left
    ·rintro w' ⟨s0, s1, s2⟩; go_simp
     with_reducible rfl
    rotate_left
    ·simp only [Act.put, List.setIfInBounds_toArray, List.set_cons_zero, List.set_cons_succ, i64_w, i32_w]
     rfl
    refine one_ (i := 8) (N := some 31) #[true, true, true, true, true, true, true, true, true, false, false, false] rfl rfl (one_of HT_.out (by kernel_rfl)) (by decide) (fun K hK => ?_)
    refine goes_ Try.func83 (by kernel_rfl) rfl #[.slice A0_2 l0_2.length c0_2] (by rfl) rfl rfl arr_ ?_
    with_reducible refine (slices_Clone_Slot.calls _ _ l0_2 t1050 _ ?side1 ?side2 A9.out).mono ?_
    (case side1 => exact kc_ (Kd.C_below HR0_2.out HB.out))
    (case side2 => exact HC0_2.out)
    rintro e w17 ⟨v1051, rfl, ho0, hb⟩; refine ⟨_, rfl, ?_⟩
    have n0_ := am_ (Kd.R_lower ho0 (below_size (hb2_ HB.out GE1045.out GE1046.out))); have n1_ := am_ (bb_ BK1045.out hb); have n2_ := am_ (bb_ BK1046.out hb); have n3_ := am_ (below_step (hb2_ HB.out GE1045.out GE1046.out) hb); clear BK1045; clear BK1046; clear HB; have HO1052 := n0_; have BK1045 := n1_; have BK1046 := n2_; have HB := n3_; clear n0_ n1_ n2_ n3_; (try clear hb); (try clear hb2); (try clear hk); (try clear hi); (try clear ho0); obtain ⟨Ao18, co18, eo18⟩ := Kd.R_slice HO1052.out; (first | subst eo18 | (injection eo18 with f1_ f2_ f3_; have f4_ := f1_.symm; have f5_ := f3_.symm; clear f1_ f2_ f3_; subst f4_; subst f5_))
    refine hK.out _ _ ⟨(blk_cell BK1045.out 0).trans rfl, (blk_cell BK1045.out 1).trans rfl, (blk_cell BK1045.out 2).trans rfl⟩ (fun hHeld => ?_)
    clear hK K; refine norm_ (a' := ?_) ?_ ?_
    rotate_left
    ·show Act.put _ (some 31) _ = _
     simp only [Act.put, List.setIfInBounds_toArray, List.set_cons_zero, List.set_cons_succ, i64_w, i32_w]
     rfl
    refine pure_ (i := 9) (N := some 32) (v := ?_) (a' := ?_) #[true, true, true, true, true, true, true, true, true, true, false, false] rfl rfl (any_of HT_.out (by kernel_rfl)) (fun _ _ _ h => h) (Or.inl ⟨by rfl, ?_⟩) ?_ ?_
    rotate_left
    ·intro w'; go_simp
     with_reducible rfl
    rotate_left
    ·simp only [Act.put, List.setIfInBounds_toArray, List.set_cons_zero, List.set_cons_succ, i64_w, i32_w]
     rfl
    refine one_ (i := 10) (N := none) #[true, true, true, true, true, true, true, true, true, true, true, false] rfl rfl (one_of HT_.out (by kernel_rfl)) (by decide) (fun K hK => ?_)
    have hs19 : w17.cell? ⟨gb1046, 0, none⟩ = some (.int .i64 0) := (blk_cell BK1046.out 0).trans rfl; have hfs19 := blk_frozen BK1046.out 0; have hns19_0 := NB1045_1046.out; have hms19_0 := NB1046_1045.out; have hs20 : w17.cell? ⟨gb1046, 1, none⟩ = some (.int .i64 0) := (blk_cell BK1046.out 1).trans rfl; have hfs20 := blk_frozen BK1046.out 1; have hns20_0 := NB1045_1046.out; have hms20_0 := NB1046_1045.out; have hs21 : w17.cell? ⟨gb1046, 2, none⟩ = some (.slice none 0 0) := (blk_cell BK1046.out 2).trans rfl; have hfs21 := blk_frozen BK1046.out 2; have hns21_0 := NB1045_1046.out; have hms21_0 := NB1046_1045.out; refine skip_ (w1 := ?_) (by rfl) rfl ?_ ?_
    rotate_left
    ·go_simp
     rfl
    refine hK.out _ _ ⟨(ct_ NB1045_1046.out ((ct_ NB1045_1046.out ((ct_ NB1045_1046.out (hHeld.1)))))), (ct_ NB1045_1046.out ((ct_ NB1045_1046.out ((ct_ NB1045_1046.out (hHeld.2.1)))))), (ct_ NB1045_1046.out ((ct_ NB1045_1046.out ((ct_ NB1045_1046.out (hHeld.2.2))))))⟩ (fun hHeld => ?_)
    clear hK K; refine pure_ (i := 11) (N := some 5) (v := ?_) (a' := ?_) #[true, true, true, true, true, true, true, true, true, true, true, true] rfl rfl (any_of HT_.out (by kernel_rfl)) (fun _ _ _ h => h) (Or.inl ⟨by rfl, ?_⟩) ?_ ?_
    rotate_left
    ·intro w'; go_simp
     with_reducible rfl
    rotate_left
    ·simp only [Act.put, List.setIfInBounds_toArray, List.set_cons_zero, List.set_cons_succ, i64_w, i32_w]
     rfl
    refine done_ (done_of HT_.out (by kernel_rfl)) ?_
    try go_wp2
    refine bodyPost_ret (results_ct rfl _ _ gb1046 30 #[.int .i64 (wrap64 (a0_0 + a1)), .int .i64 a0_1, .slice Ao18 t1050.length co18] (0, 0) _ rfl (by (with_reducible repeat (first | refine blk_drewN ?_ _ | refine blk_drew ?_ | refine blk_alloc ?_ _)); refine blk_put (cs := #[.int .i64 (wrap64 (a0_0 + a1)), .int .i64 a0_1, .slice none 0 0]) ?_ 2 _ rfl; (with_reducible repeat (first | refine blk_drewN ?_ _ | refine blk_drew ?_ | refine blk_alloc ?_ _)); refine blk_put (cs := #[.int .i64 (wrap64 (a0_0 + a1)), .int .i64 0, .slice none 0 0]) ?_ 1 _ rfl; (with_reducible repeat (first | refine blk_drewN ?_ _ | refine blk_drew ?_ | refine blk_alloc ?_ _)); refine blk_put (cs := #[.int .i64 0, .int .i64 0, .slice none 0 0]) ?_ 0 _ rfl; (with_reducible repeat (first | refine blk_drewN ?_ _ | refine blk_drew ?_ | refine blk_alloc ?_ _)); exact BK1046.out) Try.underlying30 rfl (by kernel_rfl)) rfl ?_
    exact ⟨_, er_, by (with_reducible repeat (first | apply Kd.R_alloc | apply Kd.R_drewN | apply Kd.R_drew)); exact Kd.R_mono (Kd.R_far (p := ⟨gb1046, 2, none⟩) (Kd.R_far (p := ⟨gb1046, 1, none⟩) (Kd.R_far (p := ⟨gb1046, 0, none⟩) (Kd.R_types HO1052.out BK1046.out (by decide)) (fun _ hk => hk.2) (.int .i64 (wrap64 (a0_0 + a1)))) (fun _ hk => hk.2) (.int .i64 a0_1)) (fun _ hk => hk.2) (.slice Ao18 t1050.length co18)) (fun _ hk => trivial), hb2_ HB.out GE1045.out GE1046.out⟩
   ·replace c8 := Bool.eq_false_iff.mpr c8; subst c8; replace H := i0_ H; simp only [Option.some.injEq, Prod.mk.injEq] at H
    obtain ⟨rfl, rfl, rfl, rfl⟩ := H; go_enter Try.func35, Try.ntmps35
    go_wp2_with (first | ((with_reducible refine gate_dst (N := 2) rfl ?_); refine be_ (N := 2) (cs := #[.int .i64 a0_0, .int .i64 a0_1, .slice A0_2 l0_2.length c0_2]) (t := 30) ?_; intro gb1045 hg w22 hbox hb; have BK1045 := am_ (hbox); have GW1045 := am_ (hy_ hg (hb_ HB.out) : w.heap.size ≤ gb1045); have GE1045 := GW1045; replace HB := am_ (below_step (hb_ HB.out) hb); clear hb hbox hg) | ((with_reducible refine gate_dst (N := 4) rfl ?_); refine be_ (N := 4) (cs := #[.int .i64 0, .int .i64 0, .slice none 0 0]) (t := 30) ?_; intro gb1046 hg w23 hbox hb; have BK1046 := am_ (hbox); have GW1046 := am_ (hy_ hg (hb1_ HB.out GE1045.out) : w.heap.size ≤ gb1046); have GE1046 := GW1046; have NB1045_1046 := am_ (bl_ hg BK1045.out : gb1045 ≠ gb1046); have NB1046_1045 := nb_ NB1045_1046; replace BK1045 := am_ (bb_ BK1045.out hb); replace HB := am_ (below_step (hb1_ HB.out GE1045.out) hb); clear hb hbox hg; have hnb24 := NB1045_1046.out; have hnc24 := NB1046_1045.out; obtain ⟨hcz25_0, hcz25_1, hcz25_2, hfz25_0, hfz25_1, hfz25_2⟩ := bc3_ BK1045.out) | ((with_reducible refine gate_callee (f := 34) rfl ?_); refine gl_ Try.func34 #[.agg #[.int .i64 a0_0, .int .i64 a0_1, .slice A0_2 l0_2.length c0_2]] ?_; (with_reducible refine (impl_PlanOk.calls k a0_0 a0_1 _ _ l0_2 true _ ?side1 ?side2 A3.out).mono ?_); (case side1 => exact kc_ (Kd.C_below HR0_2.out HB.out)); (case side2 => exact HC0_2.out); rintro e w26 ⟨rfl, hb⟩; refine ⟨_, rfl, ?_⟩; replace BK1045 := am_ (bb_ BK1045.out hb); replace BK1046 := am_ (bb_ BK1046.out hb); replace HB := am_ (below_step (hb2_ HB.out GE1045.out GE1046.out) hb); (try clear hb); (try clear hb2); (try clear hk); (try clear hi)) | (go_at_call 48; (with_reducible refine (impl_in.calls a1 (-1000000000000) 1000000000000 true _ A5.out).mono ?_); rintro e w' ⟨rfl, ⟨nd, rfl⟩⟩; (try (rw [drewN_self w26]; generalize hq_ : World.drewN w26 _ = w26; have n0_ : Aside0 (w26.heap[gb1045]? = some (.cells #[.int .i64 a0_0, .int .i64 a0_1, .slice A0_2 l0_2.length c0_2] 30 (0, 0))) := ⟨by rw [← hq_]; exact (bk_ BK1045.out)⟩; have n1_ : Aside0 (w26.heap[gb1046]? = some (.cells #[.int .i64 0, .int .i64 0, .slice none 0 0] 30 (0, 0))) := ⟨by rw [← hq_]; exact (bk_ BK1046.out)⟩; have n2_ : Aside0 (Below w.heap.size w w26) := ⟨by rw [← hq_]; exact (hb2_ HB.out GE1045.out GE1046.out)⟩; clear BK1045 BK1046 HB hq_; have BK1045 := n0_; have BK1046 := n1_; have HB := n2_; clear n0_ n1_ n2_)); obtain ⟨hcz27_0, hcz27_1, hcz27_2, hfz27_0, hfz27_1, hfz27_2⟩ := bc3_ BK1045.out) | (go_at_call 69; (with_reducible refine (impl_isTime.calls (wrap64 (a0_0 + a1)) false _ A7.out).mono ?_); rintro e w' ⟨rfl, ⟨nd, rfl⟩⟩; (try (rw [drewN_self w26]; generalize hq_ : World.drewN w26 _ = w26; have n0_ : Aside0 (w26.heap[gb1045]? = some (.cells #[.int .i64 a0_0, .int .i64 a0_1, .slice A0_2 l0_2.length c0_2] 30 (0, 0))) := ⟨by rw [← hq_]; exact (bk_ BK1045.out)⟩; have n1_ : Aside0 (w26.heap[gb1046]? = some (.cells #[.int .i64 0, .int .i64 0, .slice none 0 0] 30 (0, 0))) := ⟨by rw [← hq_]; exact (bk_ BK1046.out)⟩; have n2_ : Aside0 (Below w.heap.size w w26) := ⟨by rw [← hq_]; exact (hb2_ HB.out GE1045.out GE1046.out)⟩; clear BK1045 BK1046 HB hq_; have BK1045 := n0_; have BK1046 := n1_; have HB := n2_; clear n0_ n1_ n2_)); obtain ⟨hcz28_0, hcz28_1, hcz28_2, hfz28_0, hfz28_1, hfz28_2⟩ := bc3_ BK1046.out))
    refine bodyPost_ret (results_ct rfl _ _ gb1046 30 #[.int .i64 0, .int .i64 0, .slice none 0 0] (0, 0) _ rfl (by (with_reducible repeat (first | refine blk_drewN ?_ _ | refine blk_drew ?_ | refine blk_alloc ?_ _)); refine blk_put (cs := #[.int .i64 0, .int .i64 0, .slice none 0 0]) ?_ 2 _ rfl; (with_reducible repeat (first | refine blk_drewN ?_ _ | refine blk_drew ?_ | refine blk_alloc ?_ _)); refine blk_put (cs := #[.int .i64 0, .int .i64 0, .slice none 0 0]) ?_ 1 _ rfl; (with_reducible repeat (first | refine blk_drewN ?_ _ | refine blk_drew ?_ | refine blk_alloc ?_ _)); refine blk_put (cs := #[.int .i64 0, .int .i64 0, .slice none 0 0]) ?_ 0 _ rfl; (with_reducible repeat (first | refine blk_drewN ?_ _ | refine blk_drew ?_ | refine blk_alloc ?_ _)); exact BK1046.out) Try.underlying30 rfl (by kernel_rfl)) rfl ?_
    exact ⟨_, er_, by first | exact Kd.R_nil _ _ _ _ _ | exact Kd.N_nil _ _ _ _ _ | exact Kd.V_nil _ _ _ _ _ | exact Kd.Q_nil _ _ _ _ _ | exact Kd.S_nil _ _ _ _ _, hb2_ HB.out GE1045.out GE1046.out⟩
  ·replace c6 := Bool.eq_false_iff.mpr c6; subst c6; replace H := i0_ H; simp only [Option.some.injEq, Prod.mk.injEq] at H
   obtain ⟨rfl, rfl, rfl, rfl⟩ := H; go_enter Try.func35, Try.ntmps35
   go_wp2_with (first | ((with_reducible refine gate_dst (N := 2) rfl ?_); refine be_ (N := 2) (cs := #[.int .i64 a0_0, .int .i64 a0_1, .slice A0_2 l0_2.length c0_2]) (t := 30) ?_; intro gb1045 hg w29 hbox hb; have BK1045 := am_ (hbox); have GW1045 := am_ (hy_ hg (hb_ HB.out) : w.heap.size ≤ gb1045); have GE1045 := GW1045; replace HB := am_ (below_step (hb_ HB.out) hb); clear hb hbox hg) | ((with_reducible refine gate_dst (N := 4) rfl ?_); refine be_ (N := 4) (cs := #[.int .i64 0, .int .i64 0, .slice none 0 0]) (t := 30) ?_; intro gb1046 hg w30 hbox hb; have BK1046 := am_ (hbox); have GW1046 := am_ (hy_ hg (hb1_ HB.out GE1045.out) : w.heap.size ≤ gb1046); have GE1046 := GW1046; have NB1045_1046 := am_ (bl_ hg BK1045.out : gb1045 ≠ gb1046); have NB1046_1045 := nb_ NB1045_1046; replace BK1045 := am_ (bb_ BK1045.out hb); replace HB := am_ (below_step (hb1_ HB.out GE1045.out) hb); clear hb hbox hg; have hnb31 := NB1045_1046.out; have hnc31 := NB1046_1045.out; obtain ⟨hcz32_0, hcz32_1, hcz32_2, hfz32_0, hfz32_1, hfz32_2⟩ := bc3_ BK1045.out) | ((with_reducible refine gate_callee (f := 34) rfl ?_); refine gl_ Try.func34 #[.agg #[.int .i64 a0_0, .int .i64 a0_1, .slice A0_2 l0_2.length c0_2]] ?_; (with_reducible refine (impl_PlanOk.calls k a0_0 a0_1 _ _ l0_2 true _ ?side1 ?side2 A3.out).mono ?_); (case side1 => exact kc_ (Kd.C_below HR0_2.out HB.out)); (case side2 => exact HC0_2.out); rintro e w33 ⟨rfl, hb⟩; refine ⟨_, rfl, ?_⟩; replace BK1045 := am_ (bb_ BK1045.out hb); replace BK1046 := am_ (bb_ BK1046.out hb); replace HB := am_ (below_step (hb2_ HB.out GE1045.out GE1046.out) hb); (try clear hb); (try clear hb2); (try clear hk); (try clear hi)) | (go_at_call 48; (with_reducible refine (impl_in.calls a1 (-1000000000000) 1000000000000 false _ A5.out).mono ?_); rintro e w' ⟨rfl, ⟨nd, rfl⟩⟩; (try (rw [drewN_self w33]; generalize hq_ : World.drewN w33 _ = w33; have n0_ : Aside0 (w33.heap[gb1045]? = some (.cells #[.int .i64 a0_0, .int .i64 a0_1, .slice A0_2 l0_2.length c0_2] 30 (0, 0))) := ⟨by rw [← hq_]; exact (bk_ BK1045.out)⟩; have n1_ : Aside0 (w33.heap[gb1046]? = some (.cells #[.int .i64 0, .int .i64 0, .slice none 0 0] 30 (0, 0))) := ⟨by rw [← hq_]; exact (bk_ BK1046.out)⟩; have n2_ : Aside0 (Below w.heap.size w w33) := ⟨by rw [← hq_]; exact (hb2_ HB.out GE1045.out GE1046.out)⟩; clear BK1045 BK1046 HB hq_; have BK1045 := n0_; have BK1046 := n1_; have HB := n2_; clear n0_ n1_ n2_)); obtain ⟨hcz34_0, hcz34_1, hcz34_2, hfz34_0, hfz34_1, hfz34_2⟩ := bc3_ BK1046.out))
   refine bodyPost_ret (results_ct rfl _ _ gb1046 30 #[.int .i64 0, .int .i64 0, .slice none 0 0] (0, 0) _ rfl (by (with_reducible repeat (first | refine blk_drewN ?_ _ | refine blk_drew ?_ | refine blk_alloc ?_ _)); refine blk_put (cs := #[.int .i64 0, .int .i64 0, .slice none 0 0]) ?_ 2 _ rfl; (with_reducible repeat (first | refine blk_drewN ?_ _ | refine blk_drew ?_ | refine blk_alloc ?_ _)); refine blk_put (cs := #[.int .i64 0, .int .i64 0, .slice none 0 0]) ?_ 1 _ rfl; (with_reducible repeat (first | refine blk_drewN ?_ _ | refine blk_drew ?_ | refine blk_alloc ?_ _)); refine blk_put (cs := #[.int .i64 0, .int .i64 0, .slice none 0 0]) ?_ 0 _ rfl; (with_reducible repeat (first | refine blk_drewN ?_ _ | refine blk_drew ?_ | refine blk_alloc ?_ _)); exact BK1046.out) Try.underlying30 rfl (by kernel_rfl)) rfl ?_
   exact ⟨_, er_, by first | exact Kd.R_nil _ _ _ _ _ | exact Kd.N_nil _ _ _ _ _ | exact Kd.V_nil _ _ _ _ _ | exact Kd.Q_nil _ _ _ _ _ | exact Kd.S_nil _ _ _ _ _, hb2_ HB.out GE1045.out GE1046.out⟩
 ·replace c4 := Bool.eq_false_iff.mpr c4; subst c4; replace H := i0_ H; simp only [Option.some.injEq, Prod.mk.injEq] at H
  obtain ⟨rfl, rfl, rfl, rfl⟩ := H; go_enter Try.func35, Try.ntmps35
  go_wp2_with (first | ((with_reducible refine gate_dst (N := 2) rfl ?_); refine be_ (N := 2) (cs := #[.int .i64 a0_0, .int .i64 a0_1, .slice A0_2 l0_2.length c0_2]) (t := 30) ?_; intro gb1045 hg w35 hbox hb; have BK1045 := am_ (hbox); have GW1045 := am_ (hy_ hg (hb_ HB.out) : w.heap.size ≤ gb1045); have GE1045 := GW1045; replace HB := am_ (below_step (hb_ HB.out) hb); clear hb hbox hg) | ((with_reducible refine gate_dst (N := 4) rfl ?_); refine be_ (N := 4) (cs := #[.int .i64 0, .int .i64 0, .slice none 0 0]) (t := 30) ?_; intro gb1046 hg w36 hbox hb; have BK1046 := am_ (hbox); have GW1046 := am_ (hy_ hg (hb1_ HB.out GE1045.out) : w.heap.size ≤ gb1046); have GE1046 := GW1046; have NB1045_1046 := am_ (bl_ hg BK1045.out : gb1045 ≠ gb1046); have NB1046_1045 := nb_ NB1045_1046; replace BK1045 := am_ (bb_ BK1045.out hb); replace HB := am_ (below_step (hb1_ HB.out GE1045.out) hb); clear hb hbox hg; have hnb37 := NB1045_1046.out; have hnc37 := NB1046_1045.out; obtain ⟨hcz38_0, hcz38_1, hcz38_2, hfz38_0, hfz38_1, hfz38_2⟩ := bc3_ BK1045.out) | ((with_reducible refine gate_callee (f := 34) rfl ?_); refine gl_ Try.func34 #[.agg #[.int .i64 a0_0, .int .i64 a0_1, .slice A0_2 l0_2.length c0_2]] ?_; (with_reducible refine (impl_PlanOk.calls k a0_0 a0_1 _ _ l0_2 false _ ?side1 ?side2 A3.out).mono ?_); (case side1 => exact kc_ (Kd.C_below HR0_2.out HB.out)); (case side2 => exact HC0_2.out); rintro e w39 ⟨rfl, hb⟩; refine ⟨_, rfl, ?_⟩; replace BK1045 := am_ (bb_ BK1045.out hb); replace BK1046 := am_ (bb_ BK1046.out hb); replace HB := am_ (below_step (hb2_ HB.out GE1045.out GE1046.out) hb); (try clear hb); (try clear hb2); (try clear hk); (try clear hi); obtain ⟨hcz40_0, hcz40_1, hcz40_2, hfz40_0, hfz40_1, hfz40_2⟩ := bc3_ BK1046.out))
  refine bodyPost_ret (results_ct rfl _ _ gb1046 30 #[.int .i64 0, .int .i64 0, .slice none 0 0] (0, 0) _ rfl (by (with_reducible repeat (first | refine blk_drewN ?_ _ | refine blk_drew ?_ | refine blk_alloc ?_ _)); refine blk_put (cs := #[.int .i64 0, .int .i64 0, .slice none 0 0]) ?_ 2 _ rfl; (with_reducible repeat (first | refine blk_drewN ?_ _ | refine blk_drew ?_ | refine blk_alloc ?_ _)); refine blk_put (cs := #[.int .i64 0, .int .i64 0, .slice none 0 0]) ?_ 1 _ rfl; (with_reducible repeat (first | refine blk_drewN ?_ _ | refine blk_drew ?_ | refine blk_alloc ?_ _)); refine blk_put (cs := #[.int .i64 0, .int .i64 0, .slice none 0 0]) ?_ 0 _ rfl; (with_reducible repeat (first | refine blk_drewN ?_ _ | refine blk_drew ?_ | refine blk_alloc ?_ _)); exact BK1046.out) Try.underlying30 rfl (by kernel_rfl)) rfl ?_
  exact ⟨_, er_, by first | exact Kd.R_nil _ _ _ _ _ | exact Kd.N_nil _ _ _ _ _ | exact Kd.V_nil _ _ _ _ _ | exact Kd.Q_nil _ _ _ _ _ | exact Kd.S_nil _ _ _ _ _, hb2_ HB.out GE1045.out GE1046.out⟩
end Go.Proofs.Ytllpmpfchidhoaa.P
