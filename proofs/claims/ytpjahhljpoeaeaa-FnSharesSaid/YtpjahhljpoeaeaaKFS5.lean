/- Texts of the seat's proofs, part 5: functions of the program told as plain functions, with their contracts, and what is shown of them. No condition. -/
import Derived.Test.YtpjahhljpoeaeaaUKFS
import Derived.Test.YtpjahhljpoeaeaaKFS1
import Derived.Test.YtpjahhljpoeaeaaKFS4
set_option linter.unusedVariables false
set_option linter.unusedSimpArgs false
namespace Go.Proofs.Ytpjahhljpoeaeaa.P
open Go.RowKit Go.Proofs.YtpjahhljpoeaeaaW.PrintWords Go.Proofs.YtpjahhljpoeaeaaW.PrintLast Go.Proofs.YtpjahhljpoeaeaaW.PrintMore
attribute [local go_sem] max2_int min2_int max_two min_two max_three min_three max_four min_four
set_option linter.unusedVariables false
set_option linter.unusedSimpArgs false
def impl_FracOf.j0 : Nat → Int → Int → Bool → Option (Int × Int × Bool)
  | 0, _, _, _ => none
  | k + 1, x0, x1, x18 => if x18 = true then (some (0, 0, false)) else (if x1 < 0 then ((impl_size.f (wrap64 (-x0))).bind fun t1028 => ((impl_gcd.f k t1028 (wrap64 (-x1))).bind fun t1029 => (if t1029 = 0 then (none) else (some (wrap64 (Int.tdiv (wrap64 (-x0)) t1029), wrap64 (Int.tdiv (wrap64 (-x1)) t1029), true))))) else ((impl_size.f x0).bind fun t1030 => ((impl_gcd.f k t1030 x1).bind fun t1031 => (if t1031 = 0 then (none) else (some (wrap64 (Int.tdiv x0 t1031), wrap64 (Int.tdiv x1 t1031), true))))))
def impl_FracOf.f (k : Nat) (a0 : Int) (a1 : Int) : Option (Int × Int × Bool) := if a1 = 0 then (impl_FracOf.j0 k a0 a1 true) else ((impl_in.f a0 (-4000000000000) 4000000000000).bind fun t1026 => (if t1026 = true then ((impl_in.f a1 (-4000000000000) 4000000000000).bind fun t1027 => (impl_FracOf.j0 k a0 a1 (!t1027))) else (impl_FracOf.j0 k a0 a1 true)))
def impl_FracOf.T6 : Bool × List (List Nat × List Nat) := (true, [([], []), ([], []), ([0, 1], [0, 1]), ([], []), ([], []), ([3, 4], [3, 4]), ([2, 5], [2, 5]), ([6, 0, 1, 2, 3, 4, 5, 6], [6]), ([7, 0, 1, 2, 3, 4, 5, 6, 7], [])])
def impl_FracOf.B6 : List Nat := [0, 0, 3, 0, 0, 24, 63, 127, 255]
theorem impl_FracOf.tab6 : rtab .any (opsOf Try.f75 6) = impl_FracOf.T6 := by kernel_rfl
theorem impl_FracOf.bits6 : waitsOk impl_FracOf.T6.2 impl_FracOf.B6 = true := by kernel_rfl
set_option maxHeartbeats 8000000 in
set_option maxRecDepth 100000 in
theorem impl_FracOf.calls (k : Nat) (a0 : Int) (a1 : Int) (r1 : Int) (r2 : Int) (r3 : Bool) (w : World) (h : impl_FracOf.f k a0 a1 = some (r1, r2, r3)) :
    Calls Try.prog 75 #[.int .i64 a0, .int .i64 a1] w fun e w' => e = .returned (.tuple #[.agg #[.int .i64 r1, .int .i64 r2], .bool r3]) ∧ Below w.heap.size w w' := by
  have hu70 := Try.underlying70
  have HB := Aside0.mk (Below.refl w.heap.size w)
  have H : (if a1 = 0 then (impl_FracOf.j0 k a0 a1 true) else ((impl_in.f a0 (-4000000000000) 4000000000000).bind fun t1026 => (if t1026 = true then ((impl_in.f a1 (-4000000000000) 4000000000000).bind fun t1027 => (impl_FracOf.j0 k a0 a1 (!t1027))) else (impl_FracOf.j0 k a0 a1 true)))) = some (r1, r2, r3) := h
  clear h
  have HC3 := Aside0.mk H
  clear H
  go_enter Try.func75, Try.ntmps75
  go_upto_region 1 with (first | ((with_reducible refine gate_dst (N := 4) rfl ?_); refine box_event ?hg (N := 4) ?hd (cs := #[.int .i64 0, .int .i64 0]) (t := 70) ?hr ?_; (case hd => rfl); (case hg => rfl); (case hr => first | (go_simp; done) | (go_simp; rfl)); intro gb1025 hg w4 hbox hb; have n0_ := Aside0.mk (below_step (hb_ HB.out) hb); have n1_ := Aside0.mk (hbox); have n2_ := Aside0.mk ((by rw [hg]; exact (below_size (hb_ HB.out)) : w.heap.size ≤ gb1025)); have n3_ := Aside0.mk ((by rw [hg]; exact (below_size (hb_ HB.out)) : w.heap.size ≤ gb1025)); clear HB; have HB := n0_; have BK1025 := n1_; have GW1025 := n2_; have GE1025 := n3_; clear n0_ n1_ n2_ n3_; clear hb hbox hg))
  (try simp only [Act.put, List.setIfInBounds_toArray, List.set_cons_zero, List.set_cons_succ])
  go_cut [18] (fun v18 wc => ∃ (kq : Nat) (x18_2 : Bool), v18 = .bool x18_2 ∧ Aside0 (impl_FracOf.j0 kq a0 a1 x18_2 = some (r1, r2, r3)) ∧ Aside0 (kq ≤ k) ∧ Aside0 (wc.heap[gb1025]? = some (.cells #[.int .i64 0, .int .i64 0] 70 (0, 0))) ∧ Aside0 (Below w.heap.size w wc))
  case first =>
    have H := HC3.out
    clear HC3
    by_cases c5 : a1 = 0
    · rw [if_pos c5] at H
      have c5b0 : (a1 == 0) = true := beq_iff_eq.mpr c5
      have c5b1 : (a1 != 0) = false := bne_eq_false_iff_eq.mpr c5
      clear c5
      (first | rw [c5b0] | (simp only [i64_w, i32_w]; rw [c5b0]) | skip)
      have H' := Aside0.mk H
      clear H
      go_wp2
      go_meet
      case rel => exact ⟨_, (true), (by first | rfl | (simp; done) | (simp [*]; done)), H', ⟨by first | omega | exact Nat.le_refl _⟩, ⟨bk_ BK1025.out⟩, ⟨hb1_ HB.out GE1025.out⟩⟩
    · rw [if_neg c5] at H
      have c5b0 : (a1 == 0) = false := beq_eq_false_iff_ne.mpr c5
      have c5b1 : (a1 != 0) = true := bne_iff_ne.mpr c5
      (first | rw [c5b0] | (simp only [i64_w, i32_w]; rw [c5b0]) | skip)
      replace H := Option.bind_eq_some_iff.mp H
      obtain ⟨t1026, A60, H⟩ := H
      replace H : (if t1026 = true then ((impl_in.f a1 (-4000000000000) 4000000000000).bind fun t1027 => (impl_FracOf.j0 k a0 a1 (!t1027))) else (impl_FracOf.j0 k a0 a1 true)) = some (r1, r2, r3) := H
      have A6 := Aside0.mk A60
      clear A60
      by_cases c7 : t1026 = true
      · subst c7
        have H1 : ((impl_in.f a1 (-4000000000000) 4000000000000).bind fun t1027 => (impl_FracOf.j0 k a0 a1 (!t1027))) = some (r1, r2, r3) := by rw [if_pos rfl] at H; exact H
        clear H
        have H := H1
        clear H1
        replace H := Option.bind_eq_some_iff.mp H
        obtain ⟨t1027, A80, H⟩ := H
        replace H : (impl_FracOf.j0 k a0 a1 (!t1027)) = some (r1, r2, r3) := H
        have A8 := Aside0.mk A80
        clear A80
        have H' := Aside0.mk H
        clear H
        go_wp2_with (first | (go_at_call 80; (with_reducible refine (impl_in.calls a0 (-4000000000000) 4000000000000 true _ A6.out).mono ?_); rintro e w' ⟨rfl, ⟨nd, rfl⟩⟩) | (go_at_call 80; (with_reducible refine (impl_in.calls a1 (-4000000000000) 4000000000000 t1027 _ A8.out).mono ?_); rintro e w' ⟨rfl, ⟨nd, rfl⟩⟩))
        go_meet
        case rel => exact ⟨_, (!t1027), (by first | rfl | (simp; done) | (simp [*]; done)), H', ⟨by first | omega | exact Nat.le_refl _⟩, ⟨bk_ BK1025.out⟩, ⟨hb1_ HB.out GE1025.out⟩⟩
      · replace c7 := Bool.eq_false_iff.mpr c7
        subst c7
        have H1 : (impl_FracOf.j0 k a0 a1 true) = some (r1, r2, r3) := by rw [if_neg (show ¬ (false = true) by decide)] at H; exact H
        clear H
        have H := H1
        clear H1
        have H' := Aside0.mk H
        clear H
        go_wp2_with (first | (go_at_call 80; (with_reducible refine (impl_in.calls a0 (-4000000000000) 4000000000000 false _ A6.out).mono ?_); rintro e w' ⟨rfl, ⟨nd, rfl⟩⟩))
        go_meet
        case rel => exact ⟨_, (true), (by first | rfl | (simp; done) | (simp [*]; done)), H', ⟨by first | omega | exact Nat.le_refl _⟩, ⟨bk_ BK1025.out⟩, ⟨hb1_ HB.out GE1025.out⟩⟩
  case rest =>
    clear HC3
    try clear p2
    try clear c5
    try clear c5b0
    try clear c5b1
    try clear c7
    obtain ⟨kq, x18_2, rfl, HA, HJ2, BK1025, HB⟩ := hcut
    cases kq with
    | zero => exact absurd HA.out (by simp [impl_FracOf.j0])
    | succ kj2 =>
      have H := HA.out
      clear HA
      simp only [impl_FracOf.j0] at H
      by_cases c9 : x18_2 = true
      · subst c9
        have H1 : (some (0, 0, false)) = some (r1, r2, r3) := by rw [if_pos rfl] at H; exact H
        clear H
        have H := H1
        clear H1
        simp only [Option.some.injEq, Prod.mk.injEq] at H
        obtain ⟨rfl, rfl, rfl⟩ := H
        have hcz10_0 := bc_ BK1025.out 0 (.int .i64 0) rfl
        have hcz10_1 := bc_ BK1025.out 1 (.int .i64 0) rfl
        have hfz10_0 := blk_frozen BK1025.out 0
        have hfz10_1 := blk_frozen BK1025.out 1
        go_wp2
        refine bodyPost_ret (results_ct rfl _ _ gb1025 70 #[.int .i64 0, .int .i64 0] (0, 0) _ rfl (by (with_reducible repeat (first | refine blk_drewN ?_ _ | refine blk_drew ?_ | refine blk_alloc ?_ _)); refine blk_put (cs := #[.int .i64 0, .int .i64 0]) ?_ 1 _ rfl; (with_reducible repeat (first | refine blk_drewN ?_ _ | refine blk_drew ?_ | refine blk_alloc ?_ _)); refine blk_put (cs := #[.int .i64 0, .int .i64 0]) ?_ 0 _ rfl; (with_reducible repeat (first | refine blk_drewN ?_ _ | refine blk_drew ?_ | refine blk_alloc ?_ _)); exact BK1025.out) Try.underlying70 rfl (by kernel_rfl)) rfl ?_
        exact ⟨er_, hb1_ HB.out GE1025.out⟩
      · replace c9 := Bool.eq_false_iff.mpr c9
        subst c9
        have H1 : (if a1 < 0 then ((impl_size.f (wrap64 (-a0))).bind fun t1028 => ((impl_gcd.f kj2 t1028 (wrap64 (-a1))).bind fun t1029 => (if t1029 = 0 then (none) else (some (wrap64 (Int.tdiv (wrap64 (-a0)) t1029), wrap64 (Int.tdiv (wrap64 (-a1)) t1029), true))))) else ((impl_size.f a0).bind fun t1030 => ((impl_gcd.f kj2 t1030 a1).bind fun t1031 => (if t1031 = 0 then (none) else (some (wrap64 (Int.tdiv a0 t1031), wrap64 (Int.tdiv a1 t1031), true)))))) = some (r1, r2, r3) := by rw [if_neg (show ¬ (false = true) by decide)] at H; exact H
        clear H
        have H := H1
        clear H1
        by_cases c11 : a1 < 0
        · rw [if_pos c11] at H
          have c11b0 : decide (a1 < 0) = true := decide_eq_true c11
          clear c11
          replace H := Option.bind_eq_some_iff.mp H
          obtain ⟨t1028, A120, H⟩ := H
          replace H : ((impl_gcd.f kj2 t1028 (wrap64 (-a1))).bind fun t1029 => (if t1029 = 0 then (none) else (some (wrap64 (Int.tdiv (wrap64 (-a0)) t1029), wrap64 (Int.tdiv (wrap64 (-a1)) t1029), true)))) = some (r1, r2, r3) := H
          have A12 := Aside0.mk A120
          clear A120
          replace H := Option.bind_eq_some_iff.mp H
          obtain ⟨t1029, A130, H⟩ := H
          replace H : (if t1029 = 0 then (none) else (some (wrap64 (Int.tdiv (wrap64 (-a0)) t1029), wrap64 (Int.tdiv (wrap64 (-a1)) t1029), true))) = some (r1, r2, r3) := H
          have A13 := Aside0.mk A130
          clear A130
          by_cases c14 : t1029 = 0
          · rw [if_pos c14] at H
            exact absurd H (by simp)
          · rw [if_neg c14] at H
            have c14b0 : (t1029 == 0) = false := beq_eq_false_iff_ne.mpr c14
            have c14b1 : (t1029 != 0) = true := bne_iff_ne.mpr c14
            simp only [Option.some.injEq, Prod.mk.injEq] at H
            obtain ⟨rfl, rfl, rfl⟩ := H
            try go_wp2_with (first | ((with_reducible refine gate_callee (f := 103) rfl ?_); refine goesL_ (some 27) rfl rfl Try.func103 (by kernel_rfl) rfl #[.int .i64 (wrap64 (-a0))] rfl arr_ ?_; (with_reducible refine (impl_size.calls (wrap64 (-a0)) t1028 _ A12.out).mono ?_); rintro e w15 ⟨rfl, hb⟩; refine ⟨_, rfl, ?_⟩; have n0_ := Aside0.mk (bb_ BK1025.out hb); have n1_ := Aside0.mk (below_step (hb1_ HB.out GE1025.out) hb); clear BK1025; clear HB; have BK1025 := n0_; have HB := n1_; clear n0_ n1_; (try clear hb); (try clear hb2); (try clear hk); (try clear hi)) | ((with_reducible refine gate_callee (f := 102) rfl ?_); refine goesL_ (some 29) rfl rfl Try.func102 (by kernel_rfl) rfl #[.int .i64 t1028, .int .i64 (wrap64 (-a1))] rfl arr_ ?_; (with_reducible refine (impl_gcd.calls kj2 t1028 (wrap64 (-a1)) t1029 _ A13.out).mono ?_); rintro e w' ⟨rfl, ⟨nd, rfl⟩⟩; refine ⟨_, rfl, ?_⟩; (try (rw [drewN_self w15]; generalize hq_ : World.drewN w15 _ = w15; have n0_ : Aside0 (w15.heap[gb1025]? = some (.cells #[.int .i64 0, .int .i64 0] 70 (0, 0))) := ⟨by rw [← hq_]; exact (bk_ BK1025.out)⟩; have n1_ : Aside0 (Below w.heap.size w w15) := ⟨by rw [← hq_]; exact (hb1_ HB.out GE1025.out)⟩; clear BK1025 HB hq_; have BK1025 := n0_; have HB := n1_; clear n0_ n1_))))
            have n0_ := Aside0.mk (blk_drew BK1025.out)
            have n1_ := Aside0.mk (below_drew1 HB.out)
            clear BK1025
            clear HB
            have BK1025 := n0_
            have HB := n1_
            clear n0_ n1_
            refine start_ (n := 9) (S := fun w' => True) (ds := []) #[false, false, false, false, false, false, false, false, false] (by kernel_rfl) rfl rfl trivial (fun hHeld => ?_); refine with_tabW impl_FracOf.tab6 impl_FracOf.bits6 (fun HT_ HW_ => ?_)
            generalize w15.drew = w16 at BK1025 HB hHeld ⊢
            refine pure_ (i := 0) (N := some 30) (v := ?_) (a' := ?_) #[true, false, false, false, false, false, false, false, false] rfl rfl (any_of HT_.out (by kernel_rfl)) (fun _ _ _ h => h) (Or.inl ⟨by rfl, ?_⟩) ?_ ?_
            rotate_left
            · intro w'
              go_simp
              with_reducible rfl
            rotate_left
            · simp only [Act.put, List.setIfInBounds_toArray, List.set_cons_zero, List.set_cons_succ, i64_w, i32_w]
              rfl
            refine pure_ (i := 1) (N := some 31) (v := ?_) (a' := ?_) #[true, true, false, false, false, false, false, false, false] rfl rfl (any_of HT_.out (by kernel_rfl)) (fun _ _ _ h => h) (Or.inl ⟨by rfl, ?_⟩) ?_ ?_
            rotate_left
            · intro w'
              go_simp
              with_reducible rfl
            rotate_left
            · simp only [Act.put, List.setIfInBounds_toArray, List.set_cons_zero, List.set_cons_succ, i64_w, i32_w]
              rfl
            refine pure_ (i := 2) (N := some 32) (v := ?_) (a' := ?_) #[true, true, true, false, false, false, false, false, false] rfl rfl (any_of HT_.out (by kernel_rfl)) (fun _ _ _ h => h) (Or.inl ⟨by rfl, ?_⟩) ?_ ?_
            rotate_left
            · intro w'
              go_simp
              with_reducible rfl
            rotate_left
            · simp only [Act.put, List.setIfInBounds_toArray, List.set_cons_zero, List.set_cons_succ, i64_w, i32_w]
              rfl
            refine pure_ (i := 3) (N := some 33) (v := ?_) (a' := ?_) #[true, true, true, true, false, false, false, false, false] rfl rfl (any_of HT_.out (by kernel_rfl)) (fun _ _ _ h => h) (Or.inl ⟨by rfl, ?_⟩) ?_ ?_
            rotate_left
            · intro w'
              go_simp
              with_reducible rfl
            rotate_left
            · simp only [Act.put, List.setIfInBounds_toArray, List.set_cons_zero, List.set_cons_succ, i64_w, i32_w]
              rfl
            refine pure_ (i := 4) (N := some 34) (v := ?_) (a' := ?_) #[true, true, true, true, true, false, false, false, false] rfl rfl (any_of HT_.out (by kernel_rfl)) (fun _ _ _ h => h) (Or.inl ⟨by rfl, ?_⟩) ?_ ?_
            rotate_left
            · intro w'
              go_simp
              with_reducible rfl
            rotate_left
            · simp only [Act.put, List.setIfInBounds_toArray, List.set_cons_zero, List.set_cons_succ, i64_w, i32_w]
              rfl
            refine pure_ (i := 5) (N := some 35) (v := ?_) (a' := ?_) #[true, true, true, true, true, true, false, false, false] rfl rfl (any_of HT_.out (by kernel_rfl)) (fun _ _ _ h => h) (Or.inl ⟨by rfl, ?_⟩) ?_ ?_
            rotate_left
            · intro w'
              go_simp
              with_reducible rfl
            rotate_left
            · simp only [Act.put, List.setIfInBounds_toArray, List.set_cons_zero, List.set_cons_succ, i64_w, i32_w]
              rfl
            refine pure_ (i := 6) (N := some 36) (v := ?_) (a' := ?_) #[true, true, true, true, true, true, true, false, false] rfl rfl (any_of HT_.out (by kernel_rfl)) (fun _ _ _ h => h) (Or.inl ⟨by rfl, ?_⟩) ?_ ?_
            rotate_left
            · intro w'
              go_simp
              with_reducible rfl
            rotate_left
            · simp only [Act.put, List.setIfInBounds_toArray, List.set_cons_zero, List.set_cons_succ, i64_w, i32_w]
              rfl
            refine one_ (i := 7) (N := none) #[true, true, true, true, true, true, true, true, false] rfl rfl (one_of HT_.out (by kernel_rfl)) (by decide) (fun K hK => ?_)
            have hs17 : w16.cell? ⟨gb1025, 0, none⟩ = some (.int .i64 0) := (blk_cell BK1025.out 0).trans rfl
            have hfs17 := blk_frozen BK1025.out 0
            have hs18 : w16.cell? ⟨gb1025, 1, none⟩ = some (.int .i64 0) := (blk_cell BK1025.out 1).trans rfl
            have hfs18 := blk_frozen BK1025.out 1
            refine skip_ (w1 := ?_) (by rfl) rfl ?_ ?_
            rotate_left
            · go_simp
              rfl
            refine hK.out _ _ trivial (fun hHeld => ?_)
            clear hK K
            refine pure_ (i := 8) (N := some 5) (v := ?_) (a' := ?_) #[true, true, true, true, true, true, true, true, true] rfl rfl (any_of HT_.out (by kernel_rfl)) (fun _ _ _ h => h) (Or.inl ⟨by rfl, ?_⟩) ?_ ?_
            rotate_left
            · intro w'
              go_simp
              with_reducible rfl
            rotate_left
            · simp only [Act.put, List.setIfInBounds_toArray, List.set_cons_zero, List.set_cons_succ, i64_w, i32_w]
              rfl
            refine done_ (done_of HT_.out (by kernel_rfl)) ?_
            try go_wp2
            refine bodyPost_ret (results_ct rfl _ _ gb1025 70 #[.int .i64 (wrap64 (Int.tdiv (wrap64 (-a0)) t1029)), .int .i64 (wrap64 (Int.tdiv (wrap64 (-a1)) t1029))] (0, 0) _ rfl (by (with_reducible repeat (first | refine blk_drewN ?_ _ | refine blk_drew ?_ | refine blk_alloc ?_ _)); refine blk_put (cs := #[.int .i64 (wrap64 (Int.tdiv (wrap64 (-a0)) t1029)), .int .i64 0]) ?_ 1 _ rfl; (with_reducible repeat (first | refine blk_drewN ?_ _ | refine blk_drew ?_ | refine blk_alloc ?_ _)); refine blk_put (cs := #[.int .i64 0, .int .i64 0]) ?_ 0 _ rfl; (with_reducible repeat (first | refine blk_drewN ?_ _ | refine blk_drew ?_ | refine blk_alloc ?_ _)); exact BK1025.out) Try.underlying70 rfl (by kernel_rfl)) rfl ?_
            exact ⟨er_, hb1_ HB.out GE1025.out⟩
        · rw [if_neg c11] at H
          have c11b0 : decide (a1 < 0) = false := decide_eq_false c11
          clear c11
          replace H := Option.bind_eq_some_iff.mp H
          obtain ⟨t1030, A190, H⟩ := H
          replace H : ((impl_gcd.f kj2 t1030 a1).bind fun t1031 => (if t1031 = 0 then (none) else (some (wrap64 (Int.tdiv a0 t1031), wrap64 (Int.tdiv a1 t1031), true)))) = some (r1, r2, r3) := H
          have A19 := Aside0.mk A190
          clear A190
          replace H := Option.bind_eq_some_iff.mp H
          obtain ⟨t1031, A200, H⟩ := H
          replace H : (if t1031 = 0 then (none) else (some (wrap64 (Int.tdiv a0 t1031), wrap64 (Int.tdiv a1 t1031), true))) = some (r1, r2, r3) := H
          have A20 := Aside0.mk A200
          clear A200
          by_cases c21 : t1031 = 0
          · rw [if_pos c21] at H
            exact absurd H (by simp)
          · rw [if_neg c21] at H
            have c21b0 : (t1031 == 0) = false := beq_eq_false_iff_ne.mpr c21
            have c21b1 : (t1031 != 0) = true := bne_iff_ne.mpr c21
            simp only [Option.some.injEq, Prod.mk.injEq] at H
            obtain ⟨rfl, rfl, rfl⟩ := H
            try go_wp2_with (first | ((with_reducible refine gate_callee (f := 103) rfl ?_); refine goesL_ (some 27) rfl rfl Try.func103 (by kernel_rfl) rfl #[.int .i64 a0] rfl arr_ ?_; (with_reducible refine (impl_size.calls a0 t1030 _ A19.out).mono ?_); rintro e w22 ⟨rfl, hb⟩; refine ⟨_, rfl, ?_⟩; have n0_ := Aside0.mk (bb_ BK1025.out hb); have n1_ := Aside0.mk (below_step (hb1_ HB.out GE1025.out) hb); clear BK1025; clear HB; have BK1025 := n0_; have HB := n1_; clear n0_ n1_; (try clear hb); (try clear hb2); (try clear hk); (try clear hi)) | ((with_reducible refine gate_callee (f := 102) rfl ?_); refine goesL_ (some 29) rfl rfl Try.func102 (by kernel_rfl) rfl #[.int .i64 t1030, .int .i64 a1] rfl arr_ ?_; (with_reducible refine (impl_gcd.calls kj2 t1030 a1 t1031 _ A20.out).mono ?_); rintro e w' ⟨rfl, ⟨nd, rfl⟩⟩; refine ⟨_, rfl, ?_⟩; (try (rw [drewN_self w22]; generalize hq_ : World.drewN w22 _ = w22; have n0_ : Aside0 (w22.heap[gb1025]? = some (.cells #[.int .i64 0, .int .i64 0] 70 (0, 0))) := ⟨by rw [← hq_]; exact (bk_ BK1025.out)⟩; have n1_ : Aside0 (Below w.heap.size w w22) := ⟨by rw [← hq_]; exact (hb1_ HB.out GE1025.out)⟩; clear BK1025 HB hq_; have BK1025 := n0_; have HB := n1_; clear n0_ n1_))))
            have n0_ := Aside0.mk (blk_drew BK1025.out)
            have n1_ := Aside0.mk (below_drew1 HB.out)
            clear BK1025
            clear HB
            have BK1025 := n0_
            have HB := n1_
            clear n0_ n1_
            refine start_ (n := 9) (S := fun w' => True) (ds := []) #[false, false, false, false, false, false, false, false, false] (by kernel_rfl) rfl rfl trivial (fun hHeld => ?_); refine with_tabW impl_FracOf.tab6 impl_FracOf.bits6 (fun HT_ HW_ => ?_)
            generalize w22.drew = w23 at BK1025 HB hHeld ⊢
            refine pure_ (i := 0) (N := some 30) (v := ?_) (a' := ?_) #[true, false, false, false, false, false, false, false, false] rfl rfl (any_of HT_.out (by kernel_rfl)) (fun _ _ _ h => h) (Or.inl ⟨by rfl, ?_⟩) ?_ ?_
            rotate_left
            · intro w'
              go_simp
              with_reducible rfl
            rotate_left
            · simp only [Act.put, List.setIfInBounds_toArray, List.set_cons_zero, List.set_cons_succ, i64_w, i32_w]
              rfl
            refine pure_ (i := 1) (N := some 31) (v := ?_) (a' := ?_) #[true, true, false, false, false, false, false, false, false] rfl rfl (any_of HT_.out (by kernel_rfl)) (fun _ _ _ h => h) (Or.inl ⟨by rfl, ?_⟩) ?_ ?_
            rotate_left
            · intro w'
              go_simp
              with_reducible rfl
            rotate_left
            · simp only [Act.put, List.setIfInBounds_toArray, List.set_cons_zero, List.set_cons_succ, i64_w, i32_w]
              rfl
            refine pure_ (i := 2) (N := some 32) (v := ?_) (a' := ?_) #[true, true, true, false, false, false, false, false, false] rfl rfl (any_of HT_.out (by kernel_rfl)) (fun _ _ _ h => h) (Or.inl ⟨by rfl, ?_⟩) ?_ ?_
            rotate_left
            · intro w'
              go_simp
              with_reducible rfl
            rotate_left
            · simp only [Act.put, List.setIfInBounds_toArray, List.set_cons_zero, List.set_cons_succ, i64_w, i32_w]
              rfl
            refine pure_ (i := 3) (N := some 33) (v := ?_) (a' := ?_) #[true, true, true, true, false, false, false, false, false] rfl rfl (any_of HT_.out (by kernel_rfl)) (fun _ _ _ h => h) (Or.inl ⟨by rfl, ?_⟩) ?_ ?_
            rotate_left
            · intro w'
              go_simp
              with_reducible rfl
            rotate_left
            · simp only [Act.put, List.setIfInBounds_toArray, List.set_cons_zero, List.set_cons_succ, i64_w, i32_w]
              rfl
            refine pure_ (i := 4) (N := some 34) (v := ?_) (a' := ?_) #[true, true, true, true, true, false, false, false, false] rfl rfl (any_of HT_.out (by kernel_rfl)) (fun _ _ _ h => h) (Or.inl ⟨by rfl, ?_⟩) ?_ ?_
            rotate_left
            · intro w'
              go_simp
              with_reducible rfl
            rotate_left
            · simp only [Act.put, List.setIfInBounds_toArray, List.set_cons_zero, List.set_cons_succ, i64_w, i32_w]
              rfl
            refine pure_ (i := 5) (N := some 35) (v := ?_) (a' := ?_) #[true, true, true, true, true, true, false, false, false] rfl rfl (any_of HT_.out (by kernel_rfl)) (fun _ _ _ h => h) (Or.inl ⟨by rfl, ?_⟩) ?_ ?_
            rotate_left
            · intro w'
              go_simp
              with_reducible rfl
            rotate_left
            · simp only [Act.put, List.setIfInBounds_toArray, List.set_cons_zero, List.set_cons_succ, i64_w, i32_w]
              rfl
            refine pure_ (i := 6) (N := some 36) (v := ?_) (a' := ?_) #[true, true, true, true, true, true, true, false, false] rfl rfl (any_of HT_.out (by kernel_rfl)) (fun _ _ _ h => h) (Or.inl ⟨by rfl, ?_⟩) ?_ ?_
            rotate_left
            · intro w'
              go_simp
              with_reducible rfl
            rotate_left
            · simp only [Act.put, List.setIfInBounds_toArray, List.set_cons_zero, List.set_cons_succ, i64_w, i32_w]
              rfl
            refine one_ (i := 7) (N := none) #[true, true, true, true, true, true, true, true, false] rfl rfl (one_of HT_.out (by kernel_rfl)) (by decide) (fun K hK => ?_)
            have hs24 : w23.cell? ⟨gb1025, 0, none⟩ = some (.int .i64 0) := (blk_cell BK1025.out 0).trans rfl
            have hfs24 := blk_frozen BK1025.out 0
            have hs25 : w23.cell? ⟨gb1025, 1, none⟩ = some (.int .i64 0) := (blk_cell BK1025.out 1).trans rfl
            have hfs25 := blk_frozen BK1025.out 1
            refine skip_ (w1 := ?_) (by rfl) rfl ?_ ?_
            rotate_left
            · go_simp
              rfl
            refine hK.out _ _ trivial (fun hHeld => ?_)
            clear hK K
            refine pure_ (i := 8) (N := some 5) (v := ?_) (a' := ?_) #[true, true, true, true, true, true, true, true, true] rfl rfl (any_of HT_.out (by kernel_rfl)) (fun _ _ _ h => h) (Or.inl ⟨by rfl, ?_⟩) ?_ ?_
            rotate_left
            · intro w'
              go_simp
              with_reducible rfl
            rotate_left
            · simp only [Act.put, List.setIfInBounds_toArray, List.set_cons_zero, List.set_cons_succ, i64_w, i32_w]
              rfl
            refine done_ (done_of HT_.out (by kernel_rfl)) ?_
            try go_wp2
            refine bodyPost_ret (results_ct rfl _ _ gb1025 70 #[.int .i64 (wrap64 (Int.tdiv a0 t1031)), .int .i64 (wrap64 (Int.tdiv a1 t1031))] (0, 0) _ rfl (by (with_reducible repeat (first | refine blk_drewN ?_ _ | refine blk_drew ?_ | refine blk_alloc ?_ _)); refine blk_put (cs := #[.int .i64 (wrap64 (Int.tdiv a0 t1031)), .int .i64 0]) ?_ 1 _ rfl; (with_reducible repeat (first | refine blk_drewN ?_ _ | refine blk_drew ?_ | refine blk_alloc ?_ _)); refine blk_put (cs := #[.int .i64 0, .int .i64 0]) ?_ 0 _ rfl; (with_reducible repeat (first | refine blk_drewN ?_ _ | refine blk_drew ?_ | refine blk_alloc ?_ _)); exact BK1025.out) Try.underlying70 rfl (by kernel_rfl)) rfl ?_
            exact ⟨er_, hb1_ HB.out GE1025.out⟩
def impl_ShareOf.l0 : Nat → Int → Int → List (S79) → Int → Int → Int → Int → List (S79) → Option (Int × Int × Bool)
  | 0, _, _, _, _, _, _, _, _ => none
  | k + 1, x1, x6, x14, x15, x16, x1033000, x1033001, x1033002 => if x16 < x15 then (if 0 ≤ x16 then (if x16 < (x14.length : Int) then (if ((rd_T79 x14 x16).f0) = x1 then (impl_ShareOf.l0 k x1 (wrap64 (x6 + ((rd_T79 x14 x16).f1))) x14 x15 (wrap64 (x16 + 1)) x1033000 x1033001 x1033002) else (impl_ShareOf.l0 k x1 x6 x14 x15 (wrap64 (x16 + 1)) x1033000 x1033001 x1033002)) else (none)) else (none)) else ((impl_Plan_round.f k x1033000 x1033001 x1033002).bind fun t1037 => ((impl_FracOf.f k x6 t1037).bind fun bt1038 => (some (bt1038.1, bt1038.2.1, bt1038.2.2))))
def impl_ShareOf.f (k : Nat) (a0_0 : Int) (a0_1 : Int) (l0_2 : List (S79)) (a1 : Int) : Option (Int × Int × Bool) := (impl_PlanOk.f k a0_0 a0_1 l0_2).bind fun t1034 => (if t1034 = true then (impl_ShareOf.l0 k a1 0 l0_2 (l0_2.length : Int) 0 a0_0 a0_1 l0_2) else (some (0, 0, false)))
set_option maxHeartbeats 8000000 in
set_option maxRecDepth 100000 in
theorem impl_ShareOf.calls (k : Nat) (a0_0 : Int) (a0_1 : Int) (A0_2 : Option Addr) (c0_2 : Nat) (l0_2 : List (S79)) (a1 : Int) (r1 : Int) (r2 : Int) (r3 : Bool) (w : World) (hr0_2 : Kd.C k79 w A0_2 l0_2.length l0_2) (hc0_2 : l0_2.length ≤ c0_2) (h : impl_ShareOf.f k a0_0 a0_1 l0_2 a1 = some (r1, r2, r3)) :
    Calls Try.prog 38 #[.agg #[.int .i64 a0_0, .int .i64 a0_1, .slice A0_2 l0_2.length c0_2], .int .i64 a1] w fun e w' => e = .returned (.tuple #[.agg #[.int .i64 r1, .int .i64 r2], .bool r3]) ∧ Below w.heap.size w w' := by
  have hu39 := Try.underlying39
  have hu70 := Try.underlying70
  have hu79 := Try.underlying79
  have HR0_2 := Aside0.mk hr0_2
  have HC0_2 := Aside0.mk hc0_2
  clear hr0_2 hc0_2
  have HB := Aside0.mk (Below.refl w.heap.size w)
  have H : ((impl_PlanOk.f k a0_0 a0_1 l0_2).bind fun t1034 => (if t1034 = true then (impl_ShareOf.l0 k a1 0 l0_2 (l0_2.length : Int) 0 a0_0 a0_1 l0_2) else (some (0, 0, false)))) = some (r1, r2, r3) := h
  clear h
  replace H := Option.bind_eq_some_iff.mp H
  obtain ⟨t1034, A30, H⟩ := H
  replace H : (if t1034 = true then (impl_ShareOf.l0 k a1 0 l0_2 (l0_2.length : Int) 0 a0_0 a0_1 l0_2) else (some (0, 0, false))) = some (r1, r2, r3) := H
  have A3 := Aside0.mk A30
  clear A30
  by_cases c4 : t1034 = true
  · subst c4
    have H1 : (impl_ShareOf.l0 k a1 0 l0_2 (l0_2.length : Int) 0 a0_0 a0_1 l0_2) = some (r1, r2, r3) := by rw [if_pos rfl] at H; exact H
    clear H
    have H := H1
    clear H1
    have H' := Aside0.mk H
    clear H
    go_enter Try.func38, Try.ntmps38
    go_wp2_with (first | ((with_reducible refine gate_dst (N := 2) rfl ?_); refine box_event ?hg (N := 2) ?hd (cs := #[.int .i64 a0_0, .int .i64 a0_1, .slice A0_2 l0_2.length c0_2]) (t := 39) ?hr ?_; (case hd => rfl); (case hg => rfl); (case hr => first | (go_simp; done) | (go_simp; rfl)); intro gb1032 hg w5 hbox hb; have n0_ := Aside0.mk (below_step (hb_ HB.out) hb); have n1_ := Aside0.mk (hbox); have n2_ := Aside0.mk ((by rw [hg]; exact (below_size (hb_ HB.out)) : w.heap.size ≤ gb1032)); have n3_ := Aside0.mk ((by rw [hg]; exact (below_size (hb_ HB.out)) : w.heap.size ≤ gb1032)); clear HB; have HB := n0_; have BK1032 := n1_; have GW1032 := n2_; have GE1032 := n3_; clear n0_ n1_ n2_ n3_; clear hb hbox hg) | ((with_reducible refine gate_dst (N := 4) rfl ?_); refine box_event ?hg (N := 4) ?hd (cs := #[.int .i64 0, .int .i64 0]) (t := 70) ?hr ?_; (case hd => rfl); (case hg => rfl); (case hr => first | (go_simp; done) | (go_simp; rfl)); intro gb1033 hg w6 hbox hb; have n0_ := Aside0.mk (bb_ BK1032.out hb); have n1_ := Aside0.mk (below_step (hb1_ HB.out GE1032.out) hb); have n2_ := Aside0.mk (hbox); have n3_ := Aside0.mk ((by rw [hg]; exact (below_size (hb1_ HB.out GE1032.out)) : w.heap.size ≤ gb1033)); have n4_ := Aside0.mk ((by rw [hg]; exact (below_size (hb1_ HB.out GE1032.out)) : w.heap.size ≤ gb1033)); have n5_ := Aside0.mk ((bl_ hg BK1032.out : gb1032 ≠ gb1033)); have n6_ := Aside0.mk ((bg_ hg BK1032.out : gb1033 ≠ gb1032)); clear BK1032; clear HB; have BK1032 := n0_; have HB := n1_; have BK1033 := n2_; have GW1033 := n3_; have GE1033 := n4_; have NB1032_1033 := n5_; have NB1033_1032 := n6_; clear n0_ n1_ n2_ n3_ n4_ n5_ n6_; clear hb hbox hg; have hnb7 := NB1032_1033.out; have hnc7 := NB1033_1032.out; have hcz8_0 := bc_ BK1032.out 0 (.int .i64 a0_0) rfl; have hcz8_1 := bc_ BK1032.out 1 (.int .i64 a0_1) rfl; have hcz8_2 := bc_ BK1032.out 2 (.slice A0_2 l0_2.length c0_2) rfl; have hfz8_0 := blk_frozen BK1032.out 0; have hfz8_1 := blk_frozen BK1032.out 1; have hfz8_2 := blk_frozen BK1032.out 2) | ((with_reducible refine gate_callee (f := 48) rfl ?_); refine goesL_ (some 10) rfl rfl Try.func48 (by kernel_rfl) rfl #[.agg #[.int .i64 a0_0, .int .i64 a0_1, .slice A0_2 l0_2.length c0_2]] rfl arr_ ?_; (with_reducible refine (impl_PlanOk.calls k a0_0 a0_1 _ _ l0_2 true _ ?side1 ?side2 A3.out).mono ?_); (case side1 => exact kc_ (Kd.C_below HR0_2.out HB.out)); (case side2 => exact HC0_2.out); rintro e w9 ⟨rfl, hb⟩; refine ⟨_, rfl, ?_⟩; have n0_ := Aside0.mk (bb_ BK1032.out hb); have n1_ := Aside0.mk (bb_ BK1033.out hb); have n2_ := Aside0.mk (below_step (hb2_ HB.out GE1032.out GE1033.out) hb); clear BK1032; clear BK1033; clear HB; have BK1032 := n0_; have BK1033 := n1_; have HB := n2_; clear n0_ n1_ n2_; (try clear hb); (try clear hb2); (try clear hk); (try clear hi); have hcz10_0 := bc_ BK1032.out 0 (.int .i64 a0_0) rfl; have hcz10_1 := bc_ BK1032.out 1 (.int .i64 a0_1) rfl; have hcz10_2 := bc_ BK1032.out 2 (.slice A0_2 l0_2.length c0_2) rfl; have hfz10_0 := blk_frozen BK1032.out 0; have hfz10_1 := blk_frozen BK1032.out 1; have hfz10_2 := blk_frozen BK1032.out 2))
    go_loopg [6, 16] k (fun kq v6 v16 w' => ∃ (x6_1 : Int) (x16_1 : Int), v6 = .int .i64 x6_1 ∧ v16 = .int .i64 x16_1 ∧ Aside0 (impl_ShareOf.l0 kq a1 x6_1 l0_2 (l0_2.length : Int) x16_1 a0_0 a0_1 l0_2 = some (r1, r2, r3)) ∧ Aside0 (kq ≤ k) ∧ Aside0 (w'.heap[gb1032]? = some (.cells #[.int .i64 a0_0, .int .i64 a0_1, (.slice A0_2 l0_2.length c0_2)] 39 (0, 0))) ∧ Aside0 (w'.heap[gb1033]? = some (.cells #[.int .i64 0, .int .i64 0] 70 (0, 0))) ∧ Aside0 (Below w.heap.size w w'))
    case atStart => exact ⟨(0), (0), (by first | rfl | (simp; done) | (simp [*]; done)), (by first | rfl | (simp; done) | (simp [*]; done)), H', ⟨Nat.le_refl _⟩, ⟨bk_ BK1032.out⟩, ⟨bk_ BK1033.out⟩, ⟨hb2_ HB.out GE1032.out GE1033.out⟩⟩
    case round =>
      clear H'
      try clear p2
      try clear c3
      try clear c4
      try clear c7
      try clear hcz10_0
      try clear hcz10_1
      try clear hcz10_2
      try clear hcz8_0
      try clear hcz8_1
      try clear hcz8_2
      try clear hfz10_0
      try clear hfz10_1
      try clear hfz10_2
      try clear hfz8_0
      try clear hfz8_1
      try clear hfz8_2
      obtain ⟨x6_1, x16_1, rfl, rfl, HA, HK1, BK1032, BK1033, HB⟩ := hrel
      cases gk with
      | zero => exact absurd HA.out (by simp [impl_ShareOf.l0])
      | succ k1 =>
        have H := HA.out
        clear HA
        simp only [impl_ShareOf.l0] at H
        by_cases c11 : x16_1 < (l0_2.length : Int)
        · rw [if_pos c11] at H
          have c11b0 : decide (x16_1 < (l0_2.length : Int)) = true := decide_eq_true c11
          clear c11
          by_cases c12 : 0 ≤ x16_1
          · rw [if_pos c12] at H
            have c12b0 : decide (0 ≤ x16_1) = true := decide_eq_true c12
            clear c12
            by_cases c13 : x16_1 < (l0_2.length : Int)
            · rw [if_pos c13] at H
              have c13b0 : decide (x16_1 < (l0_2.length : Int)) = true := decide_eq_true c13
              clear c13
              by_cases c14 : ((rd_T79 l0_2 x16_1).f0) = a1
              · rw [if_pos c14] at H
                have c14b0 : (((rd_T79 l0_2 x16_1).f0) == a1) = true := beq_iff_eq.mpr c14
                have c14b1 : (((rd_T79 l0_2 x16_1).f0) != a1) = false := bne_eq_false_iff_eq.mpr c14
                clear c14
                have H' := Aside0.mk H
                clear H
                have p1035 : 0 ≤ (x16_1 : Int) := of_decide_eq_true (by first | (with_reducible assumption) | assumption)
                have q1035 : x16_1 < (l0_2.length : Int) := of_decide_eq_true (by first | (with_reducible assumption) | assumption)
                obtain ⟨ad1035, e1035, hx1035_0, hx1035_1⟩ := at_T79 HR0_2.out x16_1 p1035 q1035
                cases e1035
                replace hx1035_0 := (HB.out.cell (World.block_lt_of_cell? w _ hx1035_0)).trans hx1035_0
                replace hx1035_1 := (HB.out.cell (World.block_lt_of_cell? w _ hx1035_1)).trans hx1035_1
                replace p1035 := eq_true p1035
                replace q1035 := eq_true q1035
                go_wp2_with (first | ((with_reducible refine gate_dst (N := 8) rfl ?_); refine box_event ?hg (N := 8) ?hd (cs := #[.int .i64 0, .int .i64 0]) (t := 79) ?hr ?_; (case hd => rfl); (case hg => rfl); (case hr => first | (go_simp; done) | (go_simp; rfl)); intro gb1036 hg w15 hbox hb; have n0_ := Aside0.mk (bb_ BK1032.out hb); have n1_ := Aside0.mk (bb_ BK1033.out hb); have n2_ := Aside0.mk (below_step (hb2_ HB.out GE1032.out GE1033.out) hb); have n3_ := Aside0.mk (hbox); have n4_ := Aside0.mk ((by rw [hg]; exact (below_size (hb2_ HB.out GE1032.out GE1033.out)) : w.heap.size ≤ gb1036)); have n5_ := Aside0.mk ((by rw [hg]; exact (below_size (hb2_ HB.out GE1032.out GE1033.out)) : w.heap.size ≤ gb1036)); have n6_ := Aside0.mk ((bl_ hg BK1032.out : gb1032 ≠ gb1036)); have n7_ := Aside0.mk ((bg_ hg BK1032.out : gb1036 ≠ gb1032)); have n8_ := Aside0.mk ((bl_ hg BK1033.out : gb1033 ≠ gb1036)); have n9_ := Aside0.mk ((bg_ hg BK1033.out : gb1036 ≠ gb1033)); clear BK1032; clear BK1033; clear HB; have BK1032 := n0_; have BK1033 := n1_; have HB := n2_; have BK1036 := n3_; have GW1036 := n4_; have GE1036 := n5_; have NB1032_1036 := n6_; have NB1036_1032 := n7_; have NB1033_1036 := n8_; have NB1036_1033 := n9_; clear n0_ n1_ n2_ n3_ n4_ n5_ n6_ n7_ n8_ n9_; clear hb hbox hg; have hnb16 := NB1036_1032.out; have hnc16 := NB1032_1036.out; have hnb17 := NB1036_1033.out; have hnc17 := NB1033_1036.out; have hcz18_0 := bc_ BK1036.out 0 (.int .i64 0) rfl; have hcz18_1 := bc_ BK1036.out 1 (.int .i64 0) rfl; have hfz18_0 := blk_frozen BK1036.out 0; have hfz18_1 := blk_frozen BK1036.out 1))
                go_roundg k1
                case measure => have := HK1.out; omega
                case rel => exact ⟨(wrap64 (x6_1 + ((rd_T79 l0_2 x16_1).f1))), (wrap64 (x16_1 + 1)), (by first | rfl | (simp; done) | (simp [*]; done)), (by first | rfl | (simp; done) | (simp [*]; done)), H', ⟨by have := HK1.out; omega⟩, ⟨by (with_reducible repeat (first | refine blk_drewN ?_ _ | refine blk_drew ?_ | refine blk_alloc ?_ _)); refine blk_far ?_ NB1032_1036.out _; (with_reducible repeat (first | refine blk_drewN ?_ _ | refine blk_drew ?_ | refine blk_alloc ?_ _)); refine blk_far ?_ NB1032_1036.out _; (with_reducible repeat (first | refine blk_drewN ?_ _ | refine blk_drew ?_ | refine blk_alloc ?_ _)); exact BK1032.out⟩, ⟨by (with_reducible repeat (first | refine blk_drewN ?_ _ | refine blk_drew ?_ | refine blk_alloc ?_ _)); refine blk_far ?_ NB1033_1036.out _; (with_reducible repeat (first | refine blk_drewN ?_ _ | refine blk_drew ?_ | refine blk_alloc ?_ _)); refine blk_far ?_ NB1033_1036.out _; (with_reducible repeat (first | refine blk_drewN ?_ _ | refine blk_drew ?_ | refine blk_alloc ?_ _)); exact BK1033.out⟩, ⟨hb3_ HB.out GE1032.out GE1033.out GE1036.out⟩⟩
              · rw [if_neg c14] at H
                have c14b0 : (((rd_T79 l0_2 x16_1).f0) == a1) = false := beq_eq_false_iff_ne.mpr c14
                have c14b1 : (((rd_T79 l0_2 x16_1).f0) != a1) = true := bne_iff_ne.mpr c14
                have H' := Aside0.mk H
                clear H
                have p1035 : 0 ≤ (x16_1 : Int) := of_decide_eq_true (by first | (with_reducible assumption) | assumption)
                have q1035 : x16_1 < (l0_2.length : Int) := of_decide_eq_true (by first | (with_reducible assumption) | assumption)
                obtain ⟨ad1035, e1035, hx1035_0, hx1035_1⟩ := at_T79 HR0_2.out x16_1 p1035 q1035
                cases e1035
                replace hx1035_0 := (HB.out.cell (World.block_lt_of_cell? w _ hx1035_0)).trans hx1035_0
                replace hx1035_1 := (HB.out.cell (World.block_lt_of_cell? w _ hx1035_1)).trans hx1035_1
                replace p1035 := eq_true p1035
                replace q1035 := eq_true q1035
                go_wp2_with (first | ((with_reducible refine gate_dst (N := 8) rfl ?_); refine box_event ?hg (N := 8) ?hd (cs := #[.int .i64 0, .int .i64 0]) (t := 79) ?hr ?_; (case hd => rfl); (case hg => rfl); (case hr => first | (go_simp; done) | (go_simp; rfl)); intro gb1036 hg w19 hbox hb; have n0_ := Aside0.mk (bb_ BK1032.out hb); have n1_ := Aside0.mk (bb_ BK1033.out hb); have n2_ := Aside0.mk (below_step (hb2_ HB.out GE1032.out GE1033.out) hb); have n3_ := Aside0.mk (hbox); have n4_ := Aside0.mk ((by rw [hg]; exact (below_size (hb2_ HB.out GE1032.out GE1033.out)) : w.heap.size ≤ gb1036)); have n5_ := Aside0.mk ((by rw [hg]; exact (below_size (hb2_ HB.out GE1032.out GE1033.out)) : w.heap.size ≤ gb1036)); have n6_ := Aside0.mk ((bl_ hg BK1032.out : gb1032 ≠ gb1036)); have n7_ := Aside0.mk ((bg_ hg BK1032.out : gb1036 ≠ gb1032)); have n8_ := Aside0.mk ((bl_ hg BK1033.out : gb1033 ≠ gb1036)); have n9_ := Aside0.mk ((bg_ hg BK1033.out : gb1036 ≠ gb1033)); clear BK1032; clear BK1033; clear HB; have BK1032 := n0_; have BK1033 := n1_; have HB := n2_; have BK1036 := n3_; have GW1036 := n4_; have GE1036 := n5_; have NB1032_1036 := n6_; have NB1036_1032 := n7_; have NB1033_1036 := n8_; have NB1036_1033 := n9_; clear n0_ n1_ n2_ n3_ n4_ n5_ n6_ n7_ n8_ n9_; clear hb hbox hg; have hnb20 := NB1036_1032.out; have hnc20 := NB1032_1036.out; have hnb21 := NB1036_1033.out; have hnc21 := NB1033_1036.out; have hcz22_0 := bc_ BK1036.out 0 (.int .i64 0) rfl; have hcz22_1 := bc_ BK1036.out 1 (.int .i64 0) rfl; have hfz22_0 := blk_frozen BK1036.out 0; have hfz22_1 := blk_frozen BK1036.out 1))
                go_roundg k1
                case measure => have := HK1.out; omega
                case rel => exact ⟨(x6_1), (wrap64 (x16_1 + 1)), (by first | rfl | (simp; done) | (simp [*]; done)), (by first | rfl | (simp; done) | (simp [*]; done)), H', ⟨by have := HK1.out; omega⟩, ⟨by (with_reducible repeat (first | refine blk_drewN ?_ _ | refine blk_drew ?_ | refine blk_alloc ?_ _)); refine blk_far ?_ NB1032_1036.out _; (with_reducible repeat (first | refine blk_drewN ?_ _ | refine blk_drew ?_ | refine blk_alloc ?_ _)); refine blk_far ?_ NB1032_1036.out _; (with_reducible repeat (first | refine blk_drewN ?_ _ | refine blk_drew ?_ | refine blk_alloc ?_ _)); exact BK1032.out⟩, ⟨by (with_reducible repeat (first | refine blk_drewN ?_ _ | refine blk_drew ?_ | refine blk_alloc ?_ _)); refine blk_far ?_ NB1033_1036.out _; (with_reducible repeat (first | refine blk_drewN ?_ _ | refine blk_drew ?_ | refine blk_alloc ?_ _)); refine blk_far ?_ NB1033_1036.out _; (with_reducible repeat (first | refine blk_drewN ?_ _ | refine blk_drew ?_ | refine blk_alloc ?_ _)); exact BK1033.out⟩, ⟨hb3_ HB.out GE1032.out GE1033.out GE1036.out⟩⟩
            · rw [if_neg c13] at H
              exact absurd H (by simp)
          · rw [if_neg c12] at H
            exact absurd H (by simp)
        · rw [if_neg c11] at H
          have c11b0 : decide (x16_1 < (l0_2.length : Int)) = false := decide_eq_false c11
          clear c11
          replace H := Option.bind_eq_some_iff.mp H
          obtain ⟨t1037, A230, H⟩ := H
          replace H : ((impl_FracOf.f k1 x6_1 t1037).bind fun bt1038 => (some (bt1038.1, bt1038.2.1, bt1038.2.2))) = some (r1, r2, r3) := H
          have A23 := Aside0.mk A230
          clear A230
          replace H := Option.bind_eq_some_iff.mp H
          obtain ⟨⟨t1038, t1039, t1040⟩, A240, H⟩ := H
          replace H : (some (t1038, t1039, t1040)) = some (r1, r2, r3) := H
          have A24 := Aside0.mk A240
          clear A240
          simp only [Option.some.injEq, Prod.mk.injEq] at H
          obtain ⟨rfl, rfl, rfl⟩ := H
          have hnb25 := NB1032_1033.out
          have hnc25 := NB1033_1032.out
          have hcz26_0 := bc_ BK1032.out 0 (.int .i64 a0_0) rfl
          have hcz26_1 := bc_ BK1032.out 1 (.int .i64 a0_1) rfl
          have hcz26_2 := bc_ BK1032.out 2 (.slice A0_2 l0_2.length c0_2) rfl
          have hfz26_0 := blk_frozen BK1032.out 0
          have hfz26_1 := blk_frozen BK1032.out 1
          have hfz26_2 := blk_frozen BK1032.out 2
          go_wp2_with (first | ((with_reducible refine gate_callee (f := 73) rfl ?_); refine goesL_ (some 31) rfl rfl Try.func73 (by kernel_rfl) rfl #[.agg #[.int .i64 a0_0, .int .i64 a0_1, .slice A0_2 l0_2.length c0_2]] rfl arr_ ?_; (with_reducible refine (impl_Plan_round.calls k1 a0_0 a0_1 _ _ l0_2 t1037 _ ?side1 ?side2 A23.out).mono ?_); (case side1 => exact kc_ (Kd.C_below HR0_2.out HB.out)); (case side2 => exact HC0_2.out); rintro e w27 ⟨rfl, hb⟩; refine ⟨_, rfl, ?_⟩; have n0_ := Aside0.mk (bb_ BK1032.out hb); have n1_ := Aside0.mk (bb_ BK1033.out hb); have n2_ := Aside0.mk (below_step (hb2_ HB.out GE1032.out GE1033.out) hb); clear BK1032; clear BK1033; clear HB; have BK1032 := n0_; have BK1033 := n1_; have HB := n2_; clear n0_ n1_ n2_; (try clear hb); (try clear hb2); (try clear hk); (try clear hi)) | ((with_reducible refine gate_callee (f := 75) rfl ?_); refine goesL_ (some 32) rfl rfl Try.func75 (by kernel_rfl) rfl #[.int .i64 x6_1, .int .i64 t1037] rfl arr_ ?_; (with_reducible refine (impl_FracOf.calls k1 x6_1 t1037 t1038 t1039 t1040 _ A24.out).mono ?_); rintro e w28 ⟨rfl, hb⟩; refine ⟨_, rfl, ?_⟩; have n0_ := Aside0.mk (bb_ BK1032.out hb); have n1_ := Aside0.mk (bb_ BK1033.out hb); have n2_ := Aside0.mk (below_step (hb2_ HB.out GE1032.out GE1033.out) hb); clear BK1032; clear BK1033; clear HB; have BK1032 := n0_; have BK1033 := n1_; have HB := n2_; clear n0_ n1_ n2_; (try clear hb); (try clear hb2); (try clear hk); (try clear hi); have hcz29_0 := bc_ BK1033.out 0 (.int .i64 0) rfl; have hcz29_1 := bc_ BK1033.out 1 (.int .i64 0) rfl; have hfz29_0 := blk_frozen BK1033.out 0; have hfz29_1 := blk_frozen BK1033.out 1))
          refine bodyPost_ret (results_ct rfl _ _ gb1033 70 #[.int .i64 t1038, .int .i64 t1039] (0, 0) _ rfl (by (with_reducible repeat (first | refine blk_drewN ?_ _ | refine blk_drew ?_ | refine blk_alloc ?_ _)); refine blk_put (cs := #[.int .i64 t1038, .int .i64 0]) ?_ 1 _ rfl; (with_reducible repeat (first | refine blk_drewN ?_ _ | refine blk_drew ?_ | refine blk_alloc ?_ _)); refine blk_put (cs := #[.int .i64 0, .int .i64 0]) ?_ 0 _ rfl; (with_reducible repeat (first | refine blk_drewN ?_ _ | refine blk_drew ?_ | refine blk_alloc ?_ _)); exact BK1033.out) Try.underlying70 rfl (by kernel_rfl)) rfl ?_
          exact ⟨er_, hb2_ HB.out GE1032.out GE1033.out⟩
  · replace c4 := Bool.eq_false_iff.mpr c4
    subst c4
    have H1 : (some (0, 0, false)) = some (r1, r2, r3) := by rw [if_neg (show ¬ (false = true) by decide)] at H; exact H
    clear H
    have H := H1
    clear H1
    simp only [Option.some.injEq, Prod.mk.injEq] at H
    obtain ⟨rfl, rfl, rfl⟩ := H
    go_enter Try.func38, Try.ntmps38
    go_wp2_with (first | ((with_reducible refine gate_dst (N := 2) rfl ?_); refine box_event ?hg (N := 2) ?hd (cs := #[.int .i64 a0_0, .int .i64 a0_1, .slice A0_2 l0_2.length c0_2]) (t := 39) ?hr ?_; (case hd => rfl); (case hg => rfl); (case hr => first | (go_simp; done) | (go_simp; rfl)); intro gb1032 hg w30 hbox hb; have n0_ := Aside0.mk (below_step (hb_ HB.out) hb); have n1_ := Aside0.mk (hbox); have n2_ := Aside0.mk ((by rw [hg]; exact (below_size (hb_ HB.out)) : w.heap.size ≤ gb1032)); have n3_ := Aside0.mk ((by rw [hg]; exact (below_size (hb_ HB.out)) : w.heap.size ≤ gb1032)); clear HB; have HB := n0_; have BK1032 := n1_; have GW1032 := n2_; have GE1032 := n3_; clear n0_ n1_ n2_ n3_; clear hb hbox hg) | ((with_reducible refine gate_dst (N := 4) rfl ?_); refine box_event ?hg (N := 4) ?hd (cs := #[.int .i64 0, .int .i64 0]) (t := 70) ?hr ?_; (case hd => rfl); (case hg => rfl); (case hr => first | (go_simp; done) | (go_simp; rfl)); intro gb1033 hg w31 hbox hb; have n0_ := Aside0.mk (bb_ BK1032.out hb); have n1_ := Aside0.mk (below_step (hb1_ HB.out GE1032.out) hb); have n2_ := Aside0.mk (hbox); have n3_ := Aside0.mk ((by rw [hg]; exact (below_size (hb1_ HB.out GE1032.out)) : w.heap.size ≤ gb1033)); have n4_ := Aside0.mk ((by rw [hg]; exact (below_size (hb1_ HB.out GE1032.out)) : w.heap.size ≤ gb1033)); have n5_ := Aside0.mk ((bl_ hg BK1032.out : gb1032 ≠ gb1033)); have n6_ := Aside0.mk ((bg_ hg BK1032.out : gb1033 ≠ gb1032)); clear BK1032; clear HB; have BK1032 := n0_; have HB := n1_; have BK1033 := n2_; have GW1033 := n3_; have GE1033 := n4_; have NB1032_1033 := n5_; have NB1033_1032 := n6_; clear n0_ n1_ n2_ n3_ n4_ n5_ n6_; clear hb hbox hg; have hnb32 := NB1032_1033.out; have hnc32 := NB1033_1032.out; have hcz33_0 := bc_ BK1032.out 0 (.int .i64 a0_0) rfl; have hcz33_1 := bc_ BK1032.out 1 (.int .i64 a0_1) rfl; have hcz33_2 := bc_ BK1032.out 2 (.slice A0_2 l0_2.length c0_2) rfl; have hfz33_0 := blk_frozen BK1032.out 0; have hfz33_1 := blk_frozen BK1032.out 1; have hfz33_2 := blk_frozen BK1032.out 2) | ((with_reducible refine gate_callee (f := 48) rfl ?_); refine goesL_ (some 10) rfl rfl Try.func48 (by kernel_rfl) rfl #[.agg #[.int .i64 a0_0, .int .i64 a0_1, .slice A0_2 l0_2.length c0_2]] rfl arr_ ?_; (with_reducible refine (impl_PlanOk.calls k a0_0 a0_1 _ _ l0_2 false _ ?side1 ?side2 A3.out).mono ?_); (case side1 => exact kc_ (Kd.C_below HR0_2.out HB.out)); (case side2 => exact HC0_2.out); rintro e w34 ⟨rfl, hb⟩; refine ⟨_, rfl, ?_⟩; have n0_ := Aside0.mk (bb_ BK1032.out hb); have n1_ := Aside0.mk (bb_ BK1033.out hb); have n2_ := Aside0.mk (below_step (hb2_ HB.out GE1032.out GE1033.out) hb); clear BK1032; clear BK1033; clear HB; have BK1032 := n0_; have BK1033 := n1_; have HB := n2_; clear n0_ n1_ n2_; (try clear hb); (try clear hb2); (try clear hk); (try clear hi); have hcz35_0 := bc_ BK1033.out 0 (.int .i64 0) rfl; have hcz35_1 := bc_ BK1033.out 1 (.int .i64 0) rfl; have hfz35_0 := blk_frozen BK1033.out 0; have hfz35_1 := blk_frozen BK1033.out 1))
    refine bodyPost_ret (results_ct rfl _ _ gb1033 70 #[.int .i64 0, .int .i64 0] (0, 0) _ rfl (by (with_reducible repeat (first | refine blk_drewN ?_ _ | refine blk_drew ?_ | refine blk_alloc ?_ _)); refine blk_put (cs := #[.int .i64 0, .int .i64 0]) ?_ 1 _ rfl; (with_reducible repeat (first | refine blk_drewN ?_ _ | refine blk_drew ?_ | refine blk_alloc ?_ _)); refine blk_put (cs := #[.int .i64 0, .int .i64 0]) ?_ 0 _ rfl; (with_reducible repeat (first | refine blk_drewN ?_ _ | refine blk_drew ?_ | refine blk_alloc ?_ _)); exact BK1033.out) Try.underlying70 rfl (by kernel_rfl)) rfl ?_
    exact ⟨er_, hb2_ HB.out GE1032.out GE1033.out⟩
def spec_l1In.f (a0 : Int) (a1 : Int) (a2 : Int) : Option (Bool) := if a0 ≥ a1 then (some (decide (a0 ≤ a2))) else (some false)
set_option maxHeartbeats 8000000 in
set_option maxRecDepth 100000 in
theorem spec_l1In.calls (a0 : Int) (a1 : Int) (a2 : Int) (r : Bool) (w : World) (h : spec_l1In.f a0 a1 a2 = some r) :
    Calls Try.prog 76 #[.int .i64 a0, .int .i64 a1, .int .i64 a2] w fun e w' => e = .returned (.bool r) ∧ Drawn0 w w' := by
  have H : (if a0 ≥ a1 then (some (decide (a0 ≤ a2))) else (some false)) = some r := h
  clear h
  by_cases c4 : a0 ≥ a1
  · rw [if_pos c4] at H
    have c4b0 : decide (a1 ≤ a0) = true := decide_eq_true c4
    clear c4
    obtain rfl := Option.some.inj H
    go_enter Try.func76, Try.ntmps76
    go_wp2
    go_ret
    exact ⟨by first | rfl | (simp; done) | (simp [*]; done), by repeat (first | exact Drawn0.refl _ | apply Drawn0.step)⟩
  · rw [if_neg c4] at H
    have c4b0 : decide (a1 ≤ a0) = false := decide_eq_false c4
    clear c4
    obtain rfl := Option.some.inj H
    go_enter Try.func76, Try.ntmps76
    go_wp2
    go_ret
    exact ⟨by first | rfl | (simp; done) | (simp [*]; done), by repeat (first | exact Drawn0.refl _ | apply Drawn0.step)⟩
def spec_l2Time.f (a0 : Int) : Option (Bool) := (spec_l1In.f a0 0 1000000000000).bind fun t104 => (some t104)
set_option maxHeartbeats 8000000 in
set_option maxRecDepth 100000 in
theorem spec_l2Time.calls (a0 : Int) (r : Bool) (w : World) (h : spec_l2Time.f a0 = some r) :
    Calls Try.prog 42 #[.int .i64 a0] w fun e w' => e = .returned (.bool r) ∧ Drawn0 w w' := by
  have H : ((spec_l1In.f a0 0 1000000000000).bind fun t104 => (some t104)) = some r := h
  clear h
  replace H := Option.bind_eq_some_iff.mp H
  obtain ⟨t104, A20, H⟩ := H
  replace H : (some t104) = some r := H
  have A2 := Aside0.mk A20
  clear A20
  obtain rfl := Option.some.inj H
  go_enter Try.func42, Try.ntmps42
  go_wp2_with (first | ((with_reducible refine gate_callee (f := 76) rfl ?_); refine goesL_ (some 4) rfl rfl Try.func76 (by kernel_rfl) rfl #[.int .i64 a0, .int .i64 0, .int .i64 1000000000000] rfl arr_ ?_; (with_reducible refine (spec_l1In.calls a0 0 1000000000000 t104 _ A2.out).mono ?_); rintro e w' ⟨rfl, ⟨nd, rfl⟩⟩; refine ⟨_, rfl, ?_⟩))
  go_ret
  exact ⟨by first | rfl | (simp; done) | (simp [*]; done), by repeat (first | exact Drawn0.refl _ | apply Drawn0.step)⟩
def spec_l4Node.f (a0 : Int) : Option (Bool) := (spec_l1In.f a0 0 7).bind fun t105 => (some t105)
set_option maxHeartbeats 8000000 in
set_option maxRecDepth 100000 in
theorem spec_l4Node.calls (a0 : Int) (r : Bool) (w : World) (h : spec_l4Node.f a0 = some r) :
    Calls Try.prog 77 #[.int .i64 a0] w fun e w' => e = .returned (.bool r) ∧ Drawn0 w w' := by
  have H : ((spec_l1In.f a0 0 7).bind fun t105 => (some t105)) = some r := h
  clear h
  replace H := Option.bind_eq_some_iff.mp H
  obtain ⟨t105, A20, H⟩ := H
  replace H : (some t105) = some r := H
  have A2 := Aside0.mk A20
  clear A20
  obtain rfl := Option.some.inj H
  go_enter Try.func77, Try.ntmps77
  go_wp2_with (first | ((with_reducible refine gate_callee (f := 76) rfl ?_); refine goesL_ (some 4) rfl rfl Try.func76 (by kernel_rfl) rfl #[.int .i64 a0, .int .i64 0, .int .i64 7] rfl arr_ ?_; (with_reducible refine (spec_l1In.calls a0 0 7 t105 _ A2.out).mono ?_); rintro e w' ⟨rfl, ⟨nd, rfl⟩⟩; refine ⟨_, rfl, ?_⟩))
  go_ret
  exact ⟨by first | rfl | (simp; done) | (simp [*]; done), by repeat (first | exact Drawn0.refl _ | apply Drawn0.step)⟩
end Go.Proofs.Ytpjahhljpoeaeaa.P
namespace Go.Proofs.Ytpjahhljpoeaeaa.P
open Go.RowKit Go.Proofs.YtpjahhljpoeaeaaW.PrintWords Go.Proofs.YtpjahhljpoeaeaaW.PrintLast Go.Proofs.YtpjahhljpoeaeaaW.PrintMore
attribute [local go_sem] max2_int min2_int max_two min_two max_three min_three max_four min_four
set_option linter.unusedVariables false
set_option linter.unusedSimpArgs false
mutual
def spec_PlanOk.j0 : Nat → Bool → Int → Int → List (S79) → Option (Bool)
  | 0, _, _, _, _ => none
  | k + 1, x20, x107000, x107001, x107002 => if x20 = true then (some false) else (spec_PlanOk.l0 k 0 x107000 x107001 x107002)
def spec_PlanOk.l0 : Nat → Int → Int → Int → List (S79) → Option (Bool)
  | 0, _, _, _, _ => none
  | k + 1, x3, x107000, x107001, x107002 => if x3 < (x107002.length : Int) then (if 0 ≤ x3 then ((spec_l4Node.f ((rd_T79 x107002 x3).f0)).bind fun t111 => (if t111 = true then ((spec_l1In.f ((rd_T79 x107002 x3).f1) 1 1000000).bind fun t113 => (if t113 = true then (spec_PlanOk.l0 k (wrap64 (x3 + 1)) x107000 x107001 x107002) else (some false))) else (some false))) else (none)) else (some true)
end
def spec_PlanOk.f (k : Nat) (a0_0 : Int) (a0_1 : Int) (l0_2 : List (S79)) : Option (Bool) := (spec_l2Time.f a0_0).bind fun t107 => (if t107 = true then ((spec_l1In.f a0_1 0 100000).bind fun t108 => (if t108 = true then ((spec_l1In.f (l0_2.length : Int) 1 12).bind fun t109 => (spec_PlanOk.j0 k (!t109) a0_0 a0_1 l0_2)) else (spec_PlanOk.j0 k true a0_0 a0_1 l0_2))) else (spec_PlanOk.j0 k true a0_0 a0_1 l0_2))
set_option maxHeartbeats 8000000 in
set_option maxRecDepth 100000 in
theorem spec_PlanOk.calls (k : Nat) (a0_0 : Int) (a0_1 : Int) (A0_2 : Option Addr) (c0_2 : Nat) (l0_2 : List (S79)) (r : Bool) (w : World) (hr0_2 : Kd.C k79 w A0_2 l0_2.length l0_2) (hc0_2 : l0_2.length ≤ c0_2) (h : spec_PlanOk.f k a0_0 a0_1 l0_2 = some r) :
    Calls Try.prog 39 #[.agg #[.int .i64 a0_0, .int .i64 a0_1, .slice A0_2 l0_2.length c0_2]] w fun e w' => e = .returned (.bool r) ∧ Below w.heap.size w w' := by
  have hu39 := Try.underlying39
  have HR0_2 := Aside0.mk hr0_2
  have HC0_2 := Aside0.mk hc0_2
  clear hr0_2 hc0_2
  have HB := Aside0.mk (Below.refl w.heap.size w)
  have H : ((spec_l2Time.f a0_0).bind fun t107 => (if t107 = true then ((spec_l1In.f a0_1 0 100000).bind fun t108 => (if t108 = true then ((spec_l1In.f (l0_2.length : Int) 1 12).bind fun t109 => (spec_PlanOk.j0 k (!t109) a0_0 a0_1 l0_2)) else (spec_PlanOk.j0 k true a0_0 a0_1 l0_2))) else (spec_PlanOk.j0 k true a0_0 a0_1 l0_2))) = some r := h
  clear h
  have HC2 := Aside0.mk H
  clear H
  go_enter Try.func39, Try.ntmps39
  go_upto_region 1 with (first | ((with_reducible refine gate_dst (N := 1) rfl ?_); (try (refine gate_guard (by rfl) ?_; dsimp only)); refine box_event ?hg (N := 1) ?hd (cs := #[.int .i64 a0_0, .int .i64 a0_1, .slice A0_2 l0_2.length c0_2]) (t := 39) ?hr ?_; (case hd => rfl); (case hg => rfl); (case hr => first | (go_simp; done) | (go_simp; rfl)); intro gb106 hg w3 hbox hb; have n0_ := Aside0.mk (below_step (hb_ HB.out) hb); have n1_ := Aside0.mk (hbox); have n2_ := Aside0.mk ((by rw [hg]; exact (below_size (hb_ HB.out)) : w.heap.size ≤ gb106)); have n3_ := Aside0.mk ((by rw [hg]; exact (below_size (hb_ HB.out)) : w.heap.size ≤ gb106)); clear HB; have HB := n0_; have BK106 := n1_; have GW106 := n2_; have GE106 := n3_; clear n0_ n1_ n2_ n3_; clear hb hbox hg))
  (try simp only [Act.put, List.setIfInBounds_toArray, List.set_cons_zero, List.set_cons_succ])
  go_cut [20] (fun v20 wc => ∃ (kq : Nat) (x20_1 : Bool), v20 = .bool x20_1 ∧ Aside0 (spec_PlanOk.j0 kq x20_1 a0_0 a0_1 l0_2 = some r) ∧ Aside0 (kq ≤ k) ∧ Aside0 (wc.heap[gb106]? = some (.cells #[.int .i64 a0_0, .int .i64 a0_1, (.slice A0_2 l0_2.length c0_2)] 39 (0, 0))) ∧ Aside0 (Below w.heap.size w wc))
  case first =>
    have H := HC2.out
    clear HC2
    replace H := Option.bind_eq_some_iff.mp H
    obtain ⟨t107, A40, H⟩ := H
    replace H : (if t107 = true then ((spec_l1In.f a0_1 0 100000).bind fun t108 => (if t108 = true then ((spec_l1In.f (l0_2.length : Int) 1 12).bind fun t109 => (spec_PlanOk.j0 k (!t109) a0_0 a0_1 l0_2)) else (spec_PlanOk.j0 k true a0_0 a0_1 l0_2))) else (spec_PlanOk.j0 k true a0_0 a0_1 l0_2)) = some r := H
    have A4 := Aside0.mk A40
    clear A40
    by_cases c5 : t107 = true
    · subst c5
      have H1 : ((spec_l1In.f a0_1 0 100000).bind fun t108 => (if t108 = true then ((spec_l1In.f (l0_2.length : Int) 1 12).bind fun t109 => (spec_PlanOk.j0 k (!t109) a0_0 a0_1 l0_2)) else (spec_PlanOk.j0 k true a0_0 a0_1 l0_2))) = some r := by rw [if_pos rfl] at H; exact H
      clear H
      have H := H1
      clear H1
      replace H := Option.bind_eq_some_iff.mp H
      obtain ⟨t108, A60, H⟩ := H
      replace H : (if t108 = true then ((spec_l1In.f (l0_2.length : Int) 1 12).bind fun t109 => (spec_PlanOk.j0 k (!t109) a0_0 a0_1 l0_2)) else (spec_PlanOk.j0 k true a0_0 a0_1 l0_2)) = some r := H
      have A6 := Aside0.mk A60
      clear A60
      by_cases c7 : t108 = true
      · subst c7
        have H1 : ((spec_l1In.f (l0_2.length : Int) 1 12).bind fun t109 => (spec_PlanOk.j0 k (!t109) a0_0 a0_1 l0_2)) = some r := by rw [if_pos rfl] at H; exact H
        clear H
        have H := H1
        clear H1
        replace H := Option.bind_eq_some_iff.mp H
        obtain ⟨t109, A80, H⟩ := H
        replace H : (spec_PlanOk.j0 k (!t109) a0_0 a0_1 l0_2) = some r := H
        have A8 := Aside0.mk A80
        clear A80
        have H' := Aside0.mk H
        clear H
        have hcz9_0 := bc_ BK106.out 0 (.int .i64 a0_0) rfl
        have hcz9_1 := bc_ BK106.out 1 (.int .i64 a0_1) rfl
        have hcz9_2 := bc_ BK106.out 2 (.slice A0_2 l0_2.length c0_2) rfl
        have hfz9_0 := blk_frozen BK106.out 0
        have hfz9_1 := blk_frozen BK106.out 1
        have hfz9_2 := blk_frozen BK106.out 2
        go_wp2_with (first | ((with_reducible refine gate_callee (f := 42) rfl ?_); refine goesL_ (some 6) rfl rfl Try.func42 (by kernel_rfl) rfl #[.int .i64 a0_0] rfl arr_ ?_; (with_reducible refine (spec_l2Time.calls a0_0 true _ A4.out).mono ?_); rintro e w' ⟨rfl, ⟨nd, rfl⟩⟩; refine ⟨_, rfl, ?_⟩) | (go_at_call 76; (with_reducible refine (spec_l1In.calls a0_1 0 100000 true _ A6.out).mono ?_); rintro e w' ⟨rfl, ⟨nd, rfl⟩⟩) | (go_at_call 76; (with_reducible refine (spec_l1In.calls (l0_2.length : Int) 1 12 t109 _ A8.out).mono ?_); rintro e w' ⟨rfl, ⟨nd, rfl⟩⟩))
        go_meet
        case rel => exact ⟨_, (!t109), (by first | rfl | (simp; done) | (simp [*]; done)), H', ⟨by first | omega | exact Nat.le_refl _⟩, ⟨bk_ BK106.out⟩, ⟨hb1_ HB.out GE106.out⟩⟩
      · replace c7 := Bool.eq_false_iff.mpr c7
        subst c7
        have H1 : (spec_PlanOk.j0 k true a0_0 a0_1 l0_2) = some r := by rw [if_neg (show ¬ (false = true) by decide)] at H; exact H
        clear H
        have H := H1
        clear H1
        have H' := Aside0.mk H
        clear H
        have hcz10_0 := bc_ BK106.out 0 (.int .i64 a0_0) rfl
        have hcz10_1 := bc_ BK106.out 1 (.int .i64 a0_1) rfl
        have hcz10_2 := bc_ BK106.out 2 (.slice A0_2 l0_2.length c0_2) rfl
        have hfz10_0 := blk_frozen BK106.out 0
        have hfz10_1 := blk_frozen BK106.out 1
        have hfz10_2 := blk_frozen BK106.out 2
        go_wp2_with (first | ((with_reducible refine gate_callee (f := 42) rfl ?_); refine goesL_ (some 6) rfl rfl Try.func42 (by kernel_rfl) rfl #[.int .i64 a0_0] rfl arr_ ?_; (with_reducible refine (spec_l2Time.calls a0_0 true _ A4.out).mono ?_); rintro e w' ⟨rfl, ⟨nd, rfl⟩⟩; refine ⟨_, rfl, ?_⟩) | (go_at_call 76; (with_reducible refine (spec_l1In.calls a0_1 0 100000 false _ A6.out).mono ?_); rintro e w' ⟨rfl, ⟨nd, rfl⟩⟩))
        go_meet
        case rel => exact ⟨_, (true), (by first | rfl | (simp; done) | (simp [*]; done)), H', ⟨by first | omega | exact Nat.le_refl _⟩, ⟨bk_ BK106.out⟩, ⟨hb1_ HB.out GE106.out⟩⟩
    · replace c5 := Bool.eq_false_iff.mpr c5
      subst c5
      have H1 : (spec_PlanOk.j0 k true a0_0 a0_1 l0_2) = some r := by rw [if_neg (show ¬ (false = true) by decide)] at H; exact H
      clear H
      have H := H1
      clear H1
      have H' := Aside0.mk H
      clear H
      have hcz11_0 := bc_ BK106.out 0 (.int .i64 a0_0) rfl
      have hcz11_1 := bc_ BK106.out 1 (.int .i64 a0_1) rfl
      have hcz11_2 := bc_ BK106.out 2 (.slice A0_2 l0_2.length c0_2) rfl
      have hfz11_0 := blk_frozen BK106.out 0
      have hfz11_1 := blk_frozen BK106.out 1
      have hfz11_2 := blk_frozen BK106.out 2
      go_wp2_with (first | ((with_reducible refine gate_callee (f := 42) rfl ?_); refine goesL_ (some 6) rfl rfl Try.func42 (by kernel_rfl) rfl #[.int .i64 a0_0] rfl arr_ ?_; (with_reducible refine (spec_l2Time.calls a0_0 false _ A4.out).mono ?_); rintro e w' ⟨rfl, ⟨nd, rfl⟩⟩; refine ⟨_, rfl, ?_⟩))
      go_meet
      case rel => exact ⟨_, (true), (by first | rfl | (simp; done) | (simp [*]; done)), H', ⟨by first | omega | exact Nat.le_refl _⟩, ⟨bk_ BK106.out⟩, ⟨hb1_ HB.out GE106.out⟩⟩
  case rest =>
    clear HC2
    try clear p2
    try clear c3
    try clear c4
    try clear c5
    try clear c7
    try clear hcz10_0
    try clear hcz10_1
    try clear hcz10_2
    try clear hcz11_0
    try clear hcz11_1
    try clear hcz11_2
    try clear hcz9_0
    try clear hcz9_1
    try clear hcz9_2
    try clear hfz10_0
    try clear hfz10_1
    try clear hfz10_2
    try clear hfz11_0
    try clear hfz11_1
    try clear hfz11_2
    try clear hfz9_0
    try clear hfz9_1
    try clear hfz9_2
    obtain ⟨kq, x20_1, rfl, HA, HJ1, BK106, HB⟩ := hcut
    cases kq with
    | zero => exact absurd HA.out (by simp [spec_PlanOk.j0])
    | succ kj1 =>
      have H := HA.out
      clear HA
      simp only [spec_PlanOk.j0] at H
      by_cases c12 : x20_1 = true
      · subst c12
        have H1 : (some false) = some r := by rw [if_pos rfl] at H; exact H
        clear H
        have H := H1
        clear H1
        obtain rfl := Option.some.inj H
        go_wp2
        go_ret
        exact ⟨er_, hb1_ HB.out GE106.out⟩
      · replace c12 := Bool.eq_false_iff.mpr c12
        subst c12
        have H1 : (spec_PlanOk.l0 kj1 0 a0_0 a0_1 l0_2) = some r := by rw [if_neg (show ¬ (false = true) by decide)] at H; exact H
        clear H
        have H := H1
        clear H1
        have H' := Aside0.mk H
        clear H
        go_wp2
        go_loopg [3] kj1 (fun kq v3 w' => ∃ (x3_2 : Int), v3 = .int .i64 x3_2 ∧ Aside0 (spec_PlanOk.l0 kq x3_2 a0_0 a0_1 l0_2 = some r) ∧ Aside0 (kq ≤ kj1) ∧ Aside0 (w'.heap[gb106]? = some (.cells #[.int .i64 a0_0, .int .i64 a0_1, (.slice A0_2 l0_2.length c0_2)] 39 (0, 0))) ∧ Aside0 (Below w.heap.size w w'))
        case atStart => exact ⟨(0), (by first | rfl | (simp; done) | (simp [*]; done)), H', ⟨Nat.le_refl _⟩, ⟨bk_ BK106.out⟩, ⟨hb1_ HB.out GE106.out⟩⟩
        case round =>
          clear H'
          try clear c1
          try clear p2
          try clear c3
          try clear c4
          try clear c5
          try clear c7
          try clear c12
          try clear hcz10_0
          try clear hcz10_1
          try clear hcz10_2
          try clear hcz11_0
          try clear hcz11_1
          try clear hcz11_2
          try clear hcz9_0
          try clear hcz9_1
          try clear hcz9_2
          try clear hfz10_0
          try clear hfz10_1
          try clear hfz10_2
          try clear hfz11_0
          try clear hfz11_1
          try clear hfz11_2
          try clear hfz9_0
          try clear hfz9_1
          try clear hfz9_2
          try clear p2
          obtain ⟨x3_2, rfl, HA, HK2, BK106, HB⟩ := hrel
          cases gk with
          | zero => exact absurd HA.out (by simp [spec_PlanOk.l0])
          | succ k2 =>
            have H := HA.out
            clear HA
            simp only [spec_PlanOk.l0] at H
            by_cases c13 : x3_2 < (l0_2.length : Int)
            · rw [if_pos c13] at H
              have c13b0 : decide (x3_2 < (l0_2.length : Int)) = true := decide_eq_true c13
              clear c13
              by_cases c14 : 0 ≤ x3_2
              · rw [if_pos c14] at H
                have c14b0 : decide (0 ≤ x3_2) = true := decide_eq_true c14
                clear c14
                replace H := Option.bind_eq_some_iff.mp H
                obtain ⟨t111, A150, H⟩ := H
                replace H : (if t111 = true then ((spec_l1In.f ((rd_T79 l0_2 x3_2).f1) 1 1000000).bind fun t113 => (if t113 = true then (spec_PlanOk.l0 k2 (wrap64 (x3_2 + 1)) a0_0 a0_1 l0_2) else (some false))) else (some false)) = some r := H
                have A15 := Aside0.mk A150
                clear A150
                by_cases c16 : t111 = true
                · subst c16
                  have H1 : ((spec_l1In.f ((rd_T79 l0_2 x3_2).f1) 1 1000000).bind fun t113 => (if t113 = true then (spec_PlanOk.l0 k2 (wrap64 (x3_2 + 1)) a0_0 a0_1 l0_2) else (some false))) = some r := by rw [if_pos rfl] at H; exact H
                  clear H
                  have H := H1
                  clear H1
                  replace H := Option.bind_eq_some_iff.mp H
                  obtain ⟨t113, A170, H⟩ := H
                  replace H : (if t113 = true then (spec_PlanOk.l0 k2 (wrap64 (x3_2 + 1)) a0_0 a0_1 l0_2) else (some false)) = some r := H
                  have A17 := Aside0.mk A170
                  clear A170
                  by_cases c18 : t113 = true
                  · subst c18
                    have H1 : (spec_PlanOk.l0 k2 (wrap64 (x3_2 + 1)) a0_0 a0_1 l0_2) = some r := by rw [if_pos rfl] at H; exact H
                    clear H
                    have H := H1
                    clear H1
                    have H' := Aside0.mk H
                    clear H
                    have hcz19_0 := bc_ BK106.out 0 (.int .i64 a0_0) rfl
                    have hcz19_1 := bc_ BK106.out 1 (.int .i64 a0_1) rfl
                    have hcz19_2 := bc_ BK106.out 2 (.slice A0_2 l0_2.length c0_2) rfl
                    have hfz19_0 := blk_frozen BK106.out 0
                    have hfz19_1 := blk_frozen BK106.out 1
                    have hfz19_2 := blk_frozen BK106.out 2
                    have p110 : 0 ≤ (x3_2 : Int) := of_decide_eq_true (by first | (with_reducible assumption) | assumption)
                    have q110 : x3_2 < (l0_2.length : Int) := of_decide_eq_true (by first | (with_reducible assumption) | assumption)
                    obtain ⟨ad110, e110, hx110_0, hx110_1⟩ := at_T79 HR0_2.out x3_2 p110 q110
                    cases e110
                    replace hx110_0 := (HB.out.cell (World.block_lt_of_cell? w _ hx110_0)).trans hx110_0
                    replace hx110_1 := (HB.out.cell (World.block_lt_of_cell? w _ hx110_1)).trans hx110_1
                    replace p110 := eq_true p110
                    replace q110 := eq_true q110
                    go_wp2_with (first | ((with_reducible refine gate_callee (f := 77) rfl ?_); refine goesL_ (some 34) rfl rfl Try.func77 (by kernel_rfl) rfl #[.int .i64 ((rd_T79 l0_2 x3_2).f0)] rfl arr_ ?_; (with_reducible refine (spec_l4Node.calls ((rd_T79 l0_2 x3_2).f0) true _ A15.out).mono ?_); rintro e w' ⟨rfl, ⟨nd, rfl⟩⟩; refine ⟨_, rfl, ?_⟩; have p112 : 0 ≤ (x3_2 : Int) := of_decide_eq_true (by first | (with_reducible assumption) | assumption); have q112 : x3_2 < (l0_2.length : Int) := of_decide_eq_true (by first | (with_reducible assumption) | assumption); obtain ⟨ad112, e112, hx112_0, hx112_1⟩ := at_T79 HR0_2.out x3_2 p112 q112; obtain rfl : ad110 = ad112 := (by injection e112); replace hx112_0 := (HB.out.cell (World.block_lt_of_cell? w _ hx112_0)).trans hx112_0; replace hx112_1 := (HB.out.cell (World.block_lt_of_cell? w _ hx112_1)).trans hx112_1; replace p112 := eq_true p112; replace q112 := eq_true q112) | (go_at_call 76; (with_reducible refine (spec_l1In.calls ((rd_T79 l0_2 x3_2).f1) 1 1000000 true _ A17.out).mono ?_); rintro e w' ⟨rfl, ⟨nd, rfl⟩⟩))
                    go_roundg k2
                    case measure => have := HJ1.out; have := HK2.out; omega
                    case rel => exact ⟨(wrap64 (x3_2 + 1)), (by first | rfl | (simp; done) | (simp [*]; done)), H', ⟨by have := HJ1.out; have := HK2.out; omega⟩, ⟨bk_ BK106.out⟩, ⟨hb1_ HB.out GE106.out⟩⟩
                  · replace c18 := Bool.eq_false_iff.mpr c18
                    subst c18
                    have H1 : (some false) = some r := by rw [if_neg (show ¬ (false = true) by decide)] at H; exact H
                    clear H
                    have H := H1
                    clear H1
                    obtain rfl := Option.some.inj H
                    have hcz20_0 := bc_ BK106.out 0 (.int .i64 a0_0) rfl
                    have hcz20_1 := bc_ BK106.out 1 (.int .i64 a0_1) rfl
                    have hcz20_2 := bc_ BK106.out 2 (.slice A0_2 l0_2.length c0_2) rfl
                    have hfz20_0 := blk_frozen BK106.out 0
                    have hfz20_1 := blk_frozen BK106.out 1
                    have hfz20_2 := blk_frozen BK106.out 2
                    have p110 : 0 ≤ (x3_2 : Int) := of_decide_eq_true (by first | (with_reducible assumption) | assumption)
                    have q110 : x3_2 < (l0_2.length : Int) := of_decide_eq_true (by first | (with_reducible assumption) | assumption)
                    obtain ⟨ad110, e110, hx110_0, hx110_1⟩ := at_T79 HR0_2.out x3_2 p110 q110
                    cases e110
                    replace hx110_0 := (HB.out.cell (World.block_lt_of_cell? w _ hx110_0)).trans hx110_0
                    replace hx110_1 := (HB.out.cell (World.block_lt_of_cell? w _ hx110_1)).trans hx110_1
                    replace p110 := eq_true p110
                    replace q110 := eq_true q110
                    go_wp2_with (first | ((with_reducible refine gate_callee (f := 77) rfl ?_); refine goesL_ (some 34) rfl rfl Try.func77 (by kernel_rfl) rfl #[.int .i64 ((rd_T79 l0_2 x3_2).f0)] rfl arr_ ?_; (with_reducible refine (spec_l4Node.calls ((rd_T79 l0_2 x3_2).f0) true _ A15.out).mono ?_); rintro e w' ⟨rfl, ⟨nd, rfl⟩⟩; refine ⟨_, rfl, ?_⟩; have p112 : 0 ≤ (x3_2 : Int) := of_decide_eq_true (by first | (with_reducible assumption) | assumption); have q112 : x3_2 < (l0_2.length : Int) := of_decide_eq_true (by first | (with_reducible assumption) | assumption); obtain ⟨ad112, e112, hx112_0, hx112_1⟩ := at_T79 HR0_2.out x3_2 p112 q112; obtain rfl : ad110 = ad112 := (by injection e112); replace hx112_0 := (HB.out.cell (World.block_lt_of_cell? w _ hx112_0)).trans hx112_0; replace hx112_1 := (HB.out.cell (World.block_lt_of_cell? w _ hx112_1)).trans hx112_1; replace p112 := eq_true p112; replace q112 := eq_true q112) | (go_at_call 76; (with_reducible refine (spec_l1In.calls ((rd_T79 l0_2 x3_2).f1) 1 1000000 false _ A17.out).mono ?_); rintro e w' ⟨rfl, ⟨nd, rfl⟩⟩))
                    go_ret
                    exact ⟨er_, hb1_ HB.out GE106.out⟩
                · replace c16 := Bool.eq_false_iff.mpr c16
                  subst c16
                  have H1 : (some false) = some r := by rw [if_neg (show ¬ (false = true) by decide)] at H; exact H
                  clear H
                  have H := H1
                  clear H1
                  obtain rfl := Option.some.inj H
                  have hcz21_0 := bc_ BK106.out 0 (.int .i64 a0_0) rfl
                  have hcz21_1 := bc_ BK106.out 1 (.int .i64 a0_1) rfl
                  have hcz21_2 := bc_ BK106.out 2 (.slice A0_2 l0_2.length c0_2) rfl
                  have hfz21_0 := blk_frozen BK106.out 0
                  have hfz21_1 := blk_frozen BK106.out 1
                  have hfz21_2 := blk_frozen BK106.out 2
                  have p110 : 0 ≤ (x3_2 : Int) := of_decide_eq_true (by first | (with_reducible assumption) | assumption)
                  have q110 : x3_2 < (l0_2.length : Int) := of_decide_eq_true (by first | (with_reducible assumption) | assumption)
                  obtain ⟨ad110, e110, hx110_0, hx110_1⟩ := at_T79 HR0_2.out x3_2 p110 q110
                  cases e110
                  replace hx110_0 := (HB.out.cell (World.block_lt_of_cell? w _ hx110_0)).trans hx110_0
                  replace hx110_1 := (HB.out.cell (World.block_lt_of_cell? w _ hx110_1)).trans hx110_1
                  replace p110 := eq_true p110
                  replace q110 := eq_true q110
                  go_wp2_with (first | ((with_reducible refine gate_callee (f := 77) rfl ?_); refine goesL_ (some 34) rfl rfl Try.func77 (by kernel_rfl) rfl #[.int .i64 ((rd_T79 l0_2 x3_2).f0)] rfl arr_ ?_; (with_reducible refine (spec_l4Node.calls ((rd_T79 l0_2 x3_2).f0) false _ A15.out).mono ?_); rintro e w' ⟨rfl, ⟨nd, rfl⟩⟩; refine ⟨_, rfl, ?_⟩))
                  go_ret
                  exact ⟨er_, hb1_ HB.out GE106.out⟩
              · rw [if_neg c14] at H
                exact absurd H (by simp)
            · rw [if_neg c13] at H
              have c13b0 : decide (x3_2 < (l0_2.length : Int)) = false := decide_eq_false c13
              clear c13
              obtain rfl := Option.some.inj H
              have hcz22_0 := bc_ BK106.out 0 (.int .i64 a0_0) rfl
              have hcz22_1 := bc_ BK106.out 1 (.int .i64 a0_1) rfl
              have hcz22_2 := bc_ BK106.out 2 (.slice A0_2 l0_2.length c0_2) rfl
              have hfz22_0 := blk_frozen BK106.out 0
              have hfz22_1 := blk_frozen BK106.out 1
              have hfz22_2 := blk_frozen BK106.out 2
              go_wp2
              go_ret
              exact ⟨er_, hb1_ HB.out GE106.out⟩
end Go.Proofs.Ytpjahhljpoeaeaa.P

