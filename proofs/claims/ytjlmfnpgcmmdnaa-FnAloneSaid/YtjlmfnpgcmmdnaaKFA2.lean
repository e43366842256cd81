/- Texts of the seat's proofs, part 2: functions of the program told as plain functions, with their contracts, and what is shown of them. No condition. -/
import Derived.Test.YtjlmfnpgcmmdnaaUKFA
import Derived.Test.YtjlmfnpgcmmdnaaKFA1
set_option linter.unusedVariables false
set_option linter.unusedSimpArgs false
namespace Go.Proofs.Ytjlmfnpgcmmdnaa.P
open Go.RowKit Go.Proofs.YtjlmfnpgcmmdnaaW.PrintWords Go.Proofs.YtjlmfnpgcmmdnaaW.PrintLast Go.Proofs.YtjlmfnpgcmmdnaaW.PrintMore
attribute [local go_sem] max2_int min2_int max_two min_two max_three min_three max_four min_four
set_option linter.unusedVariables false
set_option linter.unusedSimpArgs false
def impl_BusOk.l0 : Nat → List (S33) → List (S33) → Int → Int → Option (Bool)
  | 0, _, _, _, _ => none
  | k + 1, x0, x5, x6, x7 => if x7 < x6 then (if 0 ≤ x7 then (if x7 < (x5.length : Int) then ((impl_FrameOk.f ((rd_T33 x5 x7).f0) ((rd_T33 x5 x7).f1) ((rd_T33 x5 x7).f2) ((rd_T33 x5 x7).f3) ((rd_T33 x5 x7).f4) ((rd_T33 x5 x7).f5)).bind fun t220 => (if t220 = true then (if x7 > 0 then (if 0 ≤ (wrap64 (x7 - 1)) then (if (wrap64 (x7 - 1)) < (x0.length : Int) then (if ((rd_T33 x5 x7).f3) < ((rd_T33 x0 (wrap64 (x7 - 1))).f3) then (some false) else (impl_BusOk.l0 k x0 x5 x6 (wrap64 (x7 + 1)))) else (none)) else (none)) else (impl_BusOk.l0 k x0 x5 x6 (wrap64 (x7 + 1)))) else (some false))) else (none)) else (none)) else (some (decide ((x0.length : Int) ≤ 60)))
def impl_BusOk.f (k : Nat) (l0 : List (S33)) : Option (Bool) := impl_BusOk.l0 k l0 l0 (l0.length : Int) 0
def impl_BusOk.T4 : Bool × List (List Nat × List Nat) := (true, [([], []), ([0], [0]), ([1], [1]), ([2, 1], [2]), ([3], [3]), ([4, 3], [3, 4]), ([5, 3, 3], [3, 5]), ([6], [6]), ([7, 6], [6, 7]), ([6], [6]), ([6], [6]), ([10, 6], [6, 10]), ([9, 11, 6], [6, 9, 11]), ([12, 6], [6, 12]), ([13, 6], [6, 13]), ([8, 14, 6], [6, 8, 14]), ([6, 15, 3], [3, 6, 15]), ([3, 16], [3, 16])])
def impl_BusOk.B4 : List Nat := [0, 1, 3, 7, 15, 31, 63, 127, 255, 127, 127, 1151, 3711, 7807, 15999, 32767, 65535, 131071]
theorem impl_BusOk.tab4 : rtab .any (opsOf Try.f15 4) = impl_BusOk.T4 := by kernel_rfl
theorem impl_BusOk.bits4 : waitsOk impl_BusOk.T4.2 impl_BusOk.B4 = true := by kernel_rfl
set_option maxHeartbeats 8000000 in
set_option maxRecDepth 100000 in
theorem impl_BusOk.calls (k : Nat) (A0 : Option Addr) (c0 : Nat) (l0 : List (S33)) (r : Bool) (w : World) (hr0 : Kd.C k33 w A0 l0.length l0) (hc0 : l0.length ≤ c0) (h : impl_BusOk.f k l0 = some r) :
    Calls Try.prog 15 #[.slice A0 l0.length c0] w fun e w' => e = .returned (.bool r) ∧ Below w.heap.size w w' := by
  have hu33 := Try.underlying33
  have HR0 := Aside0.mk hr0
  have HC0 := Aside0.mk hc0
  clear hr0 hc0
  have HB := Aside0.mk (Below.refl w.heap.size w)
  have H : (impl_BusOk.l0 k l0 l0 (l0.length : Int) 0) = some r := h
  clear h
  have H' := Aside0.mk H
  clear H
  go_enter Try.func15, Try.ntmps15
  go_wp2
  go_loopg [7] k (fun kq v7 w' => ∃ (x7_1 : Int), v7 = .int .i64 x7_1 ∧ Aside0 (impl_BusOk.l0 kq l0 l0 (l0.length : Int) x7_1 = some r) ∧ Aside0 (kq ≤ k) ∧ Aside0 (Below w.heap.size w w'))
  case atStart => exact ⟨(0), (by first | rfl | (simp; done) | (simp [*]; done)), H', ⟨Nat.le_refl _⟩, ⟨hb_ HB.out⟩⟩
  case round =>
    clear H'
    try clear c1
    obtain ⟨x7_1, rfl, HA, HK1, HB⟩ := hrel
    cases gk with
    | zero => exact absurd HA.out (by simp [impl_BusOk.l0])
    | succ k1 =>
      have H := HA.out
      clear HA
      simp only [impl_BusOk.l0] at H
      by_cases c2 : x7_1 < (l0.length : Int)
      · rw [if_pos c2] at H
        have c2b0 : decide (x7_1 < (l0.length : Int)) = true := decide_eq_true c2
        clear c2
        by_cases c3 : 0 ≤ x7_1
        · rw [if_pos c3] at H
          have c3b0 : decide (0 ≤ x7_1) = true := decide_eq_true c3
          clear c3
          by_cases c4 : x7_1 < (l0.length : Int)
          · rw [if_pos c4] at H
            have c4b0 : decide (x7_1 < (l0.length : Int)) = true := decide_eq_true c4
            clear c4
            replace H := Option.bind_eq_some_iff.mp H
            obtain ⟨t220, A50, H⟩ := H
            replace H : (if t220 = true then (if x7_1 > 0 then (if 0 ≤ (wrap64 (x7_1 - 1)) then (if (wrap64 (x7_1 - 1)) < (l0.length : Int) then (if ((rd_T33 l0 x7_1).f3) < ((rd_T33 l0 (wrap64 (x7_1 - 1))).f3) then (some false) else (impl_BusOk.l0 k1 l0 l0 (l0.length : Int) (wrap64 (x7_1 + 1)))) else (none)) else (none)) else (impl_BusOk.l0 k1 l0 l0 (l0.length : Int) (wrap64 (x7_1 + 1)))) else (some false)) = some r := H
            have A5 := Aside0.mk A50
            clear A50
            by_cases c6 : t220 = true
            · subst c6
              have H1 : (if x7_1 > 0 then (if 0 ≤ (wrap64 (x7_1 - 1)) then (if (wrap64 (x7_1 - 1)) < (l0.length : Int) then (if ((rd_T33 l0 x7_1).f3) < ((rd_T33 l0 (wrap64 (x7_1 - 1))).f3) then (some false) else (impl_BusOk.l0 k1 l0 l0 (l0.length : Int) (wrap64 (x7_1 + 1)))) else (none)) else (none)) else (impl_BusOk.l0 k1 l0 l0 (l0.length : Int) (wrap64 (x7_1 + 1)))) = some r := by rw [if_pos rfl] at H; exact H
              clear H
              have H := H1
              clear H1
              by_cases c7 : x7_1 > 0
              · rw [if_pos c7] at H
                have c7b0 : decide (0 < x7_1) = true := decide_eq_true c7
                clear c7
                obtain ⟨ji8, hji8⟩ : ∃ j_ : Int, (wrap64 (x7_1 - 1)) = j_ := ⟨_, rfl⟩
                replace H : (if 0 ≤ (ji8) then (if (ji8) < (l0.length : Int) then (if ((rd_T33 l0 x7_1).f3) < ((rd_T33 l0 (ji8)).f3) then (some false) else (impl_BusOk.l0 k1 l0 l0 (l0.length : Int) (wrap64 (x7_1 + 1)))) else (none)) else (none)) = some r := by first | (rw [hji8] at H; exact H) | (simp only [hji8] at H ⊢; exact H)
                (try rw [hji8] at A5)
                have hji8w : (IntKind.i64.wrap (x7_1 - 1)) = ji8 := (i64_w _).trans hji8
                by_cases c9 : 0 ≤ (ji8)
                · rw [if_pos c9] at H
                  have c9b0 : decide (0 ≤ (ji8)) = true := decide_eq_true c9
                  clear c9
                  by_cases c10 : (ji8) < (l0.length : Int)
                  · rw [if_pos c10] at H
                    have c10b0 : decide ((ji8) < (l0.length : Int)) = true := decide_eq_true c10
                    clear c10
                    by_cases c11 : ((rd_T33 l0 x7_1).f3) < ((rd_T33 l0 (ji8)).f3)
                    · rw [if_pos c11] at H
                      have c11b0 : decide (((rd_T33 l0 x7_1).f3) < ((rd_T33 l0 (ji8)).f3)) = true := decide_eq_true c11
                      clear c11
                      obtain rfl := Option.some.inj H
                      have p218 : 0 ≤ (x7_1 : Int) := of_decide_eq_true (by first | (with_reducible assumption) | assumption)
                      have q218 : x7_1 < (l0.length : Int) := of_decide_eq_true (by first | (with_reducible assumption) | assumption)
                      obtain ⟨ad218, e218, hx218_0, hx218_1, hx218_2, hx218_3, hx218_4, hx218_5⟩ := at_T33 HR0.out x7_1 p218 q218
                      cases e218
                      replace hx218_0 := (HB.out.cell (World.block_lt_of_cell? w _ hx218_0)).trans hx218_0
                      replace hx218_1 := (HB.out.cell (World.block_lt_of_cell? w _ hx218_1)).trans hx218_1
                      replace hx218_2 := (HB.out.cell (World.block_lt_of_cell? w _ hx218_2)).trans hx218_2
                      replace hx218_3 := (HB.out.cell (World.block_lt_of_cell? w _ hx218_3)).trans hx218_3
                      replace hx218_4 := (HB.out.cell (World.block_lt_of_cell? w _ hx218_4)).trans hx218_4
                      replace hx218_5 := (HB.out.cell (World.block_lt_of_cell? w _ hx218_5)).trans hx218_5
                      replace p218 := eq_true p218
                      replace q218 := eq_true q218
                      try go_wp2_with (first | ((with_reducible refine gate_dst (N := 4) rfl ?_); refine box_event ?hg (N := 4) ?hd (cs := #[.int .i64 0, .int .i64 0, .int .i64 0, .int .i64 0, .int .i64 0, .string (⟨#[]⟩ : ByteArray)]) (t := 33) ?hr ?_; (case hd => rfl); (case hg => rfl); (case hr => first | (go_simp; done) | (go_simp; rfl)); intro gb219 hg w12 hbox hb; have n0_ := Aside0.mk (below_step (hb_ HB.out) hb); have n1_ := Aside0.mk (hbox); have n2_ := Aside0.mk ((by rw [hg]; exact (below_size (hb_ HB.out)) : w.heap.size ≤ gb219)); have n3_ := Aside0.mk ((by rw [hg]; exact (below_size (hb_ HB.out)) : w.heap.size ≤ gb219)); clear HB; have HB := n0_; have BK219 := n1_; have GW219 := n2_; have GE219 := n3_; clear n0_ n1_ n2_ n3_; clear hb hbox hg; have hcz13_0 := bc_ BK219.out 0 (.int .i64 0) rfl; have hcz13_1 := bc_ BK219.out 1 (.int .i64 0) rfl; have hcz13_2 := bc_ BK219.out 2 (.int .i64 0) rfl; have hcz13_3 := bc_ BK219.out 3 (.int .i64 0) rfl; have hcz13_4 := bc_ BK219.out 4 (.int .i64 0) rfl; have hcz13_5 : w12.cell? ⟨gb219, 5, none⟩ = some (.string (⟨#[]⟩ : ByteArray)) := (blk_cell BK219.out 5).trans rfl; have hfz13_0 := blk_frozen BK219.out 0; have hfz13_1 := blk_frozen BK219.out 1; have hfz13_2 := blk_frozen BK219.out 2; have hfz13_3 := blk_frozen BK219.out 3; have hfz13_4 := blk_frozen BK219.out 4; have hfz13_5 := blk_frozen BK219.out 5))
                      have n0_ : Aside0 (((((((w12.setCell ⟨gb219, 0, none⟩ (.int .i64 ((rd_T33 l0 x7_1).f0))).setCell ⟨gb219, 1, none⟩ (.int .i64 ((rd_T33 l0 x7_1).f1))).setCell ⟨gb219, 2, none⟩ (.int .i64 ((rd_T33 l0 x7_1).f2))).setCell ⟨gb219, 3, none⟩ (.int .i64 ((rd_T33 l0 x7_1).f3))).setCell ⟨gb219, 4, none⟩ (.int .i64 ((rd_T33 l0 x7_1).f4))).setCell ⟨gb219, 5, none⟩ (.string ((rd_T33 l0 x7_1).f5))).heap[gb219]? = some (.cells #[.int .i64 ((rd_T33 l0 x7_1).f0), .int .i64 ((rd_T33 l0 x7_1).f1), .int .i64 ((rd_T33 l0 x7_1).f2), .int .i64 ((rd_T33 l0 x7_1).f3), .int .i64 ((rd_T33 l0 x7_1).f4), .string ((rd_T33 l0 x7_1).f5)] 33 (0, 0))) := ⟨by (with_reducible repeat (first | refine blk_drewN ?_ _ | refine blk_drew ?_ | refine blk_alloc ?_ _)); refine blk_put (cs := #[.int .i64 ((rd_T33 l0 x7_1).f0), .int .i64 ((rd_T33 l0 x7_1).f1), .int .i64 ((rd_T33 l0 x7_1).f2), .int .i64 ((rd_T33 l0 x7_1).f3), .int .i64 ((rd_T33 l0 x7_1).f4), .string (⟨#[]⟩ : ByteArray)]) ?_ 5 _ rfl; (with_reducible repeat (first | refine blk_drewN ?_ _ | refine blk_drew ?_ | refine blk_alloc ?_ _)); refine blk_put (cs := #[.int .i64 ((rd_T33 l0 x7_1).f0), .int .i64 ((rd_T33 l0 x7_1).f1), .int .i64 ((rd_T33 l0 x7_1).f2), .int .i64 ((rd_T33 l0 x7_1).f3), .int .i64 0, .string (⟨#[]⟩ : ByteArray)]) ?_ 4 _ rfl; (with_reducible repeat (first | refine blk_drewN ?_ _ | refine blk_drew ?_ | refine blk_alloc ?_ _)); refine blk_put (cs := #[.int .i64 ((rd_T33 l0 x7_1).f0), .int .i64 ((rd_T33 l0 x7_1).f1), .int .i64 ((rd_T33 l0 x7_1).f2), .int .i64 0, .int .i64 0, .string (⟨#[]⟩ : ByteArray)]) ?_ 3 _ rfl; (with_reducible repeat (first | refine blk_drewN ?_ _ | refine blk_drew ?_ | refine blk_alloc ?_ _)); refine blk_put (cs := #[.int .i64 ((rd_T33 l0 x7_1).f0), .int .i64 ((rd_T33 l0 x7_1).f1), .int .i64 0, .int .i64 0, .int .i64 0, .string (⟨#[]⟩ : ByteArray)]) ?_ 2 _ rfl; (with_reducible repeat (first | refine blk_drewN ?_ _ | refine blk_drew ?_ | refine blk_alloc ?_ _)); refine blk_put (cs := #[.int .i64 ((rd_T33 l0 x7_1).f0), .int .i64 0, .int .i64 0, .int .i64 0, .int .i64 0, .string (⟨#[]⟩ : ByteArray)]) ?_ 1 _ rfl; (with_reducible repeat (first | refine blk_drewN ?_ _ | refine blk_drew ?_ | refine blk_alloc ?_ _)); refine blk_put (cs := #[.int .i64 0, .int .i64 0, .int .i64 0, .int .i64 0, .int .i64 0, .string (⟨#[]⟩ : ByteArray)]) ?_ 0 _ rfl; (with_reducible repeat (first | refine blk_drewN ?_ _ | refine blk_drew ?_ | refine blk_alloc ?_ _)); exact BK219.out⟩
                      have n1_ : Aside0 (Below w.heap.size w ((((((w12.setCell ⟨gb219, 0, none⟩ (.int .i64 ((rd_T33 l0 x7_1).f0))).setCell ⟨gb219, 1, none⟩ (.int .i64 ((rd_T33 l0 x7_1).f1))).setCell ⟨gb219, 2, none⟩ (.int .i64 ((rd_T33 l0 x7_1).f2))).setCell ⟨gb219, 3, none⟩ (.int .i64 ((rd_T33 l0 x7_1).f3))).setCell ⟨gb219, 4, none⟩ (.int .i64 ((rd_T33 l0 x7_1).f4))).setCell ⟨gb219, 5, none⟩ (.string ((rd_T33 l0 x7_1).f5)))) := ⟨hb1_ HB.out GE219.out⟩
                      (try clear BK219)
                      (try clear HB)
                      generalize ((((((w12.setCell ⟨gb219, 0, none⟩ (.int .i64 ((rd_T33 l0 x7_1).f0))).setCell ⟨gb219, 1, none⟩ (.int .i64 ((rd_T33 l0 x7_1).f1))).setCell ⟨gb219, 2, none⟩ (.int .i64 ((rd_T33 l0 x7_1).f2))).setCell ⟨gb219, 3, none⟩ (.int .i64 ((rd_T33 l0 x7_1).f3))).setCell ⟨gb219, 4, none⟩ (.int .i64 ((rd_T33 l0 x7_1).f4))).setCell ⟨gb219, 5, none⟩ (.string ((rd_T33 l0 x7_1).f5))) = w14 at n0_ n1_ ⊢
                      have BK219 := n0_
                      have HB := n1_
                      clear n0_ n1_
                      have n0_ := Aside0.mk (blk_drew BK219.out)
                      have n1_ := Aside0.mk (below_drew1 HB.out)
                      clear BK219
                      clear HB
                      have BK219 := n0_
                      have HB := n1_
                      clear n0_ n1_
                      have p221 : 0 ≤ ((ji8) : Int) := of_decide_eq_true (by first | (with_reducible assumption) | assumption)
                      have q221 : (ji8) < (l0.length : Int) := of_decide_eq_true (by first | (with_reducible assumption) | assumption)
                      obtain ⟨ad221, e221, hx221_0, hx221_1, hx221_2, hx221_3, hx221_4, hx221_5⟩ := at_T33 HR0.out (ji8) p221 q221
                      have hw221_5 := hx221_5
                      have hw221_4 := hx221_4
                      have hw221_3 := hx221_3
                      have hw221_2 := hx221_2
                      have hw221_1 := hx221_1
                      have hw221_0 := hx221_0
                      obtain rfl : ad218 = ad221 := (by injection e221)
                      replace hx221_0 := (HB.out.cell (World.block_lt_of_cell? w _ hx221_0)).trans hx221_0
                      replace hx221_1 := (HB.out.cell (World.block_lt_of_cell? w _ hx221_1)).trans hx221_1
                      replace hx221_2 := (HB.out.cell (World.block_lt_of_cell? w _ hx221_2)).trans hx221_2
                      replace hx221_3 := (HB.out.cell (World.block_lt_of_cell? w _ hx221_3)).trans hx221_3
                      replace hx221_4 := (HB.out.cell (World.block_lt_of_cell? w _ hx221_4)).trans hx221_4
                      replace hx221_5 := (HB.out.cell (World.block_lt_of_cell? w _ hx221_5)).trans hx221_5
                      replace p221 := eq_true p221
                      replace q221 := eq_true q221
                      refine start_ (n := 18) (S := fun w' => w'.cell? ⟨gb219, 0, none⟩ = some (.int .i64 ((rd_T33 l0 x7_1).f0)) ∧ w'.cell? ⟨gb219, 1, none⟩ = some (.int .i64 ((rd_T33 l0 x7_1).f1)) ∧ w'.cell? ⟨gb219, 2, none⟩ = some (.int .i64 ((rd_T33 l0 x7_1).f2)) ∧ w'.cell? ⟨gb219, 3, none⟩ = some (.int .i64 ((rd_T33 l0 x7_1).f3)) ∧ w'.cell? ⟨gb219, 4, none⟩ = some (.int .i64 ((rd_T33 l0 x7_1).f4)) ∧ w'.cell? ⟨gb219, 5, none⟩ = some (.string ((rd_T33 l0 x7_1).f5)) ∧ w'.cell? (ad218.add (((ji8)).toNat * 6)) = some (.int .i64 ((rd_T33 l0 (ji8)).f0)) ∧ w'.cell? ⟨(ad218.add (((ji8)).toNat * 6)).block, (ad218.add (((ji8)).toNat * 6)).off + 1, none⟩ = some (.int .i64 ((rd_T33 l0 (ji8)).f1)) ∧ w'.cell? ⟨(ad218.add (((ji8)).toNat * 6)).block, (ad218.add (((ji8)).toNat * 6)).off + 2, none⟩ = some (.int .i64 ((rd_T33 l0 (ji8)).f2)) ∧ w'.cell? ⟨(ad218.add (((ji8)).toNat * 6)).block, (ad218.add (((ji8)).toNat * 6)).off + 3, none⟩ = some (.int .i64 ((rd_T33 l0 (ji8)).f3)) ∧ w'.cell? ⟨(ad218.add (((ji8)).toNat * 6)).block, (ad218.add (((ji8)).toNat * 6)).off + 4, none⟩ = some (.int .i64 ((rd_T33 l0 (ji8)).f4)) ∧ w'.cell? ⟨(ad218.add (((ji8)).toNat * 6)).block, (ad218.add (((ji8)).toNat * 6)).off + 5, none⟩ = some (.string ((rd_T33 l0 (ji8)).f5))) (ds := []) #[false, false, false, false, false, false, false, false, false, false, false, false, false, false, false, false, false, false] (by kernel_rfl) rfl rfl ⟨(blk_cell BK219.out 0).trans rfl, (blk_cell BK219.out 1).trans rfl, (blk_cell BK219.out 2).trans rfl, (blk_cell BK219.out 3).trans rfl, (blk_cell BK219.out 4).trans rfl, (blk_cell BK219.out 5).trans rfl, ((HB.out.cell (World.block_lt_of_cell? w _ hw221_0)).trans hw221_0), ((HB.out.cell (World.block_lt_of_cell? w _ hw221_1)).trans hw221_1), ((HB.out.cell (World.block_lt_of_cell? w _ hw221_2)).trans hw221_2), ((HB.out.cell (World.block_lt_of_cell? w _ hw221_3)).trans hw221_3), ((HB.out.cell (World.block_lt_of_cell? w _ hw221_4)).trans hw221_4), ((HB.out.cell (World.block_lt_of_cell? w _ hw221_5)).trans hw221_5)⟩ (fun hHeld => ?_); refine with_tabW impl_BusOk.tab4 impl_BusOk.bits4 (fun HT_ HW_ => ?_)
                      generalize w14.drew = w15 at BK219 HB hx221_0 hx221_1 hx221_2 hx221_3 hx221_4 hx221_5 hHeld ⊢
                      refine take_ (i := 0) (N := some 12) (v := ?_) (a' := ?_) #[true, false, false, false, false, false, false, false, false, false, false, false, false, false, false, false, false, false] rfl rfl (take_ofW HT_.out HW_.out (by kernel_rfl)) (fun _ _ _ h => h) (Or.inl ⟨by rfl, ?_⟩) hHeld ?_ ?_
                      rotate_left
                      · rintro w' ⟨s0, s1, s2, s3, s4, s5, s6, s7, s8, s9, s10, s11⟩
                        go_simp
                        with_reducible rfl
                      rotate_left
                      · simp only [Act.put, List.setIfInBounds_toArray, List.set_cons_zero, List.set_cons_succ, i64_w, i32_w]
                        rfl
                      refine one_ (i := 1) (N := some 13) #[true, true, false, false, false, false, false, false, false, false, false, false, false, false, false, false, false, false] rfl rfl (one_of HT_.out (by kernel_rfl)) (by decide) (fun K hK => ?_)
                      refine goes_ Try.func56 (by kernel_rfl) rfl #[.agg #[.int .i64 ((rd_T33 l0 x7_1).f0), .int .i64 ((rd_T33 l0 x7_1).f1), .int .i64 ((rd_T33 l0 x7_1).f2), .int .i64 ((rd_T33 l0 x7_1).f3), .int .i64 ((rd_T33 l0 x7_1).f4), .string ((rd_T33 l0 x7_1).f5)]] (by rfl) rfl rfl arr_ ?_
                      with_reducible refine (impl_FrameOk.calls ((rd_T33 l0 x7_1).f0) ((rd_T33 l0 x7_1).f1) ((rd_T33 l0 x7_1).f2) ((rd_T33 l0 x7_1).f3) ((rd_T33 l0 x7_1).f4) ((rd_T33 l0 x7_1).f5) true _ A5.out).mono ?_
                      rintro e w16 ⟨rfl, hb⟩
                      refine ⟨_, rfl, ?_⟩
                      have n0_ := Aside0.mk (bb_ BK219.out hb)
                      have n1_ := Aside0.mk (below_step (hb1_ HB.out GE219.out) hb)
                      clear BK219
                      clear HB
                      have BK219 := n0_
                      have HB := n1_
                      clear n0_ n1_
                      (try clear hb)
                      (try clear hb2)
                      (try clear hk)
                      (try clear hi)
                      refine hK.out _ _ ⟨(blk_cell BK219.out 0).trans rfl, (blk_cell BK219.out 1).trans rfl, (blk_cell BK219.out 2).trans rfl, (blk_cell BK219.out 3).trans rfl, (blk_cell BK219.out 4).trans rfl, (blk_cell BK219.out 5).trans rfl, ((HB.out.cell (World.block_lt_of_cell? w _ hw221_0)).trans hw221_0), ((HB.out.cell (World.block_lt_of_cell? w _ hw221_1)).trans hw221_1), ((HB.out.cell (World.block_lt_of_cell? w _ hw221_2)).trans hw221_2), ((HB.out.cell (World.block_lt_of_cell? w _ hw221_3)).trans hw221_3), ((HB.out.cell (World.block_lt_of_cell? w _ hw221_4)).trans hw221_4), ((HB.out.cell (World.block_lt_of_cell? w _ hw221_5)).trans hw221_5)⟩ (fun hHeld => ?_)
                      clear hK K
                      refine norm_ (a' := ?_) ?_ ?_
                      rotate_left
                      · show Act.put _ (some 13) _ = _
                        simp only [Act.put, List.setIfInBounds_toArray, List.set_cons_zero, List.set_cons_succ, i64_w, i32_w]
                        rfl
                      refine pure_ (i := 2) (N := some 14) (v := ?_) (a' := ?_) #[true, true, true, false, false, false, false, false, false, false, false, false, false, false, false, false, false, false] rfl rfl (any_of HT_.out (by kernel_rfl)) (fun _ _ _ h => h) (Or.inl ⟨by rfl, ?_⟩) ?_ ?_
                      rotate_left
                      · intro w'
                        go_simp
                        with_reducible rfl
                      rotate_left
                      · simp only [Act.put, List.setIfInBounds_toArray, List.set_cons_zero, List.set_cons_succ, i64_w, i32_w]
                        rfl
                      refine pure_ (i := 3) (N := some 15) (v := ?_) (a' := ?_) #[true, true, true, true, false, false, false, false, false, false, false, false, false, false, false, false, false, false] rfl rfl (any_of HT_.out (by kernel_rfl)) (fun _ _ _ h => h) (Or.inl ⟨by rfl, ?_⟩) ?_ ?_
                      rotate_left
                      · intro w'
                        go_simp
                        with_reducible rfl
                      rotate_left
                      · simp only [Act.put, List.setIfInBounds_toArray, List.set_cons_zero, List.set_cons_succ, i64_w, i32_w]
                        rfl
                      refine pure_ (i := 4) (N := some 16) (v := ?_) (a' := ?_) #[true, true, true, true, true, false, false, false, false, false, false, false, false, false, false, false, false, false] rfl rfl (any_of HT_.out (by kernel_rfl)) (fun _ _ _ h => h) (Or.inl ⟨by rfl, ?_⟩) ?_ ?_
                      rotate_left
                      · intro w'
                        go_simp
                        with_reducible rfl
                      rotate_left
                      · simp only [Act.put, List.setIfInBounds_toArray, List.set_cons_zero, List.set_cons_succ, i64_w, i32_w]
                        rfl
                      refine pure_ (i := 5) (N := some 17) (v := ?_) (a' := ?_) #[true, true, true, true, true, true, false, false, false, false, false, false, false, false, false, false, false, false] rfl rfl (any_of HT_.out (by kernel_rfl)) (fun _ _ _ h => h) (Or.inl ⟨by rfl, ?_⟩) ?_ ?_
                      rotate_left
                      · intro w'
                        go_simp
                        with_reducible rfl
                      rotate_left
                      · simp only [Act.put, List.setIfInBounds_toArray, List.set_cons_zero, List.set_cons_succ, i64_w, i32_w]
                        rfl
                      refine pure_ (i := 6) (N := some 18) (v := ?_) (a' := ?_) #[true, true, true, true, true, true, true, false, false, false, false, false, false, false, false, false, false, false] rfl rfl (any_of HT_.out (by kernel_rfl)) (fun _ _ _ h => h) (Or.inl ⟨by rfl, ?_⟩) ?_ ?_
                      rotate_left
                      · intro w'
                        go_simp
                        with_reducible rfl
                      rotate_left
                      · simp only [Act.put, List.setIfInBounds_toArray, List.set_cons_zero, List.set_cons_succ, i64_w, i32_w]
                        rfl
                      refine pure_ (i := 7) (N := some 19) (v := ?_) (a' := ?_) #[true, true, true, true, true, true, true, true, false, false, false, false, false, false, false, false, false, false] rfl rfl (any_of HT_.out (by kernel_rfl)) (fun _ _ _ h => h) (Or.inl ⟨by rfl, ?_⟩) ?_ ?_
                      rotate_left
                      · intro w'
                        go_simp
                        with_reducible rfl
                      rotate_left
                      · simp only [Act.put, List.setIfInBounds_toArray, List.set_cons_zero, List.set_cons_succ, i64_w, i32_w]
                        rfl
                      refine pure_ (i := 9) (N := some 21) (v := ?_) (a' := ?_) #[true, true, true, true, true, true, true, true, false, true, false, false, false, false, false, false, false, false] rfl rfl (any_of HT_.out (by kernel_rfl)) (fun _ _ _ h => h) (Or.inl ⟨by rfl, ?_⟩) ?_ ?_
                      rotate_left
                      · intro w'
                        go_simp
                        with_reducible rfl
                      rotate_left
                      · simp only [Act.put, List.setIfInBounds_toArray, List.set_cons_zero, List.set_cons_succ, i64_w, i32_w]
                        rfl
                      refine pure_ (i := 10) (N := some 22) (v := ?_) (a' := ?_) #[true, true, true, true, true, true, true, true, false, true, true, false, false, false, false, false, false, false] rfl rfl (any_of HT_.out (by kernel_rfl)) (fun _ _ _ h => h) (Or.inl ⟨by rfl, ?_⟩) ?_ ?_
                      rotate_left
                      · intro w'
                        go_simp
                        with_reducible rfl
                      rotate_left
                      · simp only [Act.put, List.setIfInBounds_toArray, List.set_cons_zero, List.set_cons_succ, i64_w, i32_w]
                        rfl
                      refine pure_ (i := 11) (N := some 23) (v := ?_) (a' := ?_) #[true, true, true, true, true, true, true, true, false, true, true, true, false, false, false, false, false, false] rfl rfl (any_of HT_.out (by kernel_rfl)) (fun _ _ _ h => h) (Or.inl ⟨by rfl, ?_⟩) ?_ ?_
                      rotate_left
                      · intro w'
                        go_simp
                        with_reducible rfl
                      rotate_left
                      · simp only [Act.put, List.setIfInBounds_toArray, List.set_cons_zero, List.set_cons_succ, i64_w, i32_w]
                        rfl
                      refine pure_ (i := 12) (N := some 24) (v := ?_) (a' := ?_) #[true, true, true, true, true, true, true, true, false, true, true, true, true, false, false, false, false, false] rfl rfl (any_of HT_.out (by kernel_rfl)) (fun _ _ _ h => h) (Or.inl ⟨by rfl, ?_⟩) ?_ ?_
                      rotate_left
                      · intro w'
                        go_simp
                        with_reducible rfl
                      rotate_left
                      · simp only [Act.put, List.setIfInBounds_toArray, List.set_cons_zero, List.set_cons_succ, i64_w, i32_w]
                        rfl
                      refine pure_ (i := 13) (N := some 25) (v := ?_) (a' := ?_) #[true, true, true, true, true, true, true, true, false, true, true, true, true, true, false, false, false, false] rfl rfl (any_of HT_.out (by kernel_rfl)) (fun _ _ _ h => h) (Or.inl ⟨by rfl, ?_⟩) ?_ ?_
                      rotate_left
                      · intro w'
                        go_simp
                        with_reducible rfl
                      rotate_left
                      · simp only [Act.put, List.setIfInBounds_toArray, List.set_cons_zero, List.set_cons_succ, i64_w, i32_w]
                        rfl
                      refine take_ (i := 8) (N := some 20) (v := ?_) (a' := ?_) #[true, true, true, true, true, true, true, true, true, true, true, true, true, true, false, false, false, false] rfl rfl (take_ofW HT_.out HW_.out (by kernel_rfl)) (fun _ _ _ h => h) (Or.inl ⟨by rfl, ?_⟩) hHeld ?_ ?_
                      rotate_left
                      · rintro w' ⟨s0, s1, s2, s3, s4, s5, s6, s7, s8, s9, s10, s11⟩
                        go_simp
                        with_reducible rfl
                      rotate_left
                      · simp only [Act.put, List.setIfInBounds_toArray, List.set_cons_zero, List.set_cons_succ, i64_w, i32_w]
                        rfl
                      refine take_ (i := 14) (N := some 26) (v := ?_) (a' := ?_) #[true, true, true, true, true, true, true, true, true, true, true, true, true, true, true, false, false, false] rfl rfl (take_ofW HT_.out HW_.out (by kernel_rfl)) (fun _ _ _ h => h) (Or.inl ⟨by rfl, ?_⟩) hHeld ?_ ?_
                      rotate_left
                      · rintro w' ⟨s0, s1, s2, s3, s4, s5, s6, s7, s8, s9, s10, s11⟩
                        go_simp
                        with_reducible rfl
                      rotate_left
                      · simp only [Act.put, List.setIfInBounds_toArray, List.set_cons_zero, List.set_cons_succ, i64_w, i32_w]
                        rfl
                      refine pure_ (i := 15) (N := some 27) (v := ?_) (a' := ?_) #[true, true, true, true, true, true, true, true, true, true, true, true, true, true, true, true, false, false] rfl rfl (any_of HT_.out (by kernel_rfl)) (fun _ _ _ h => h) (Or.inl ⟨by rfl, ?_⟩) ?_ ?_
                      rotate_left
                      · intro w'
                        go_simp
                        with_reducible rfl
                      rotate_left
                      · simp only [Act.put, List.setIfInBounds_toArray, List.set_cons_zero, List.set_cons_succ, i64_w, i32_w]
                        rfl
                      refine pure_ (i := 16) (N := some 28) (v := ?_) (a' := ?_) #[true, true, true, true, true, true, true, true, true, true, true, true, true, true, true, true, true, false] rfl rfl (any_of HT_.out (by kernel_rfl)) (fun _ _ _ h => h) (Or.inl ⟨by rfl, ?_⟩) ?_ ?_
                      rotate_left
                      · intro w'
                        go_simp
                        with_reducible rfl
                      rotate_left
                      · simp only [Act.put, List.setIfInBounds_toArray, List.set_cons_zero, List.set_cons_succ, i64_w, i32_w]
                        rfl
                      refine pure_ (i := 17) (N := some 29) (v := ?_) (a' := ?_) #[true, true, true, true, true, true, true, true, true, true, true, true, true, true, true, true, true, true] rfl rfl (any_of HT_.out (by kernel_rfl)) (fun _ _ _ h => h) (Or.inl ⟨by rfl, ?_⟩) ?_ ?_
                      rotate_left
                      · intro w'
                        go_simp
                        with_reducible rfl
                      rotate_left
                      · simp only [Act.put, List.setIfInBounds_toArray, List.set_cons_zero, List.set_cons_succ, i64_w, i32_w]
                        rfl
                      refine done_ (done_of HT_.out (by kernel_rfl)) ?_
                      try go_wp2
                      go_ret
                      exact ⟨by first | rfl | (simp [errW_none, errW_some] <;> rfl) | (simp only [← hji8]; first | rfl | (simp [errW_none, errW_some] <;> rfl)) | (simp [*, errW_none, errW_some] <;> rfl), hb1_ HB.out GE219.out⟩
                    · rw [if_neg c11] at H
                      have c11b0 : decide (((rd_T33 l0 x7_1).f3) < ((rd_T33 l0 (ji8)).f3)) = false := decide_eq_false c11
                      clear c11
                      have H' := Aside0.mk H
                      clear H
                      have p218 : 0 ≤ (x7_1 : Int) := of_decide_eq_true (by first | (with_reducible assumption) | assumption)
                      have q218 : x7_1 < (l0.length : Int) := of_decide_eq_true (by first | (with_reducible assumption) | assumption)
                      obtain ⟨ad218, e218, hx218_0, hx218_1, hx218_2, hx218_3, hx218_4, hx218_5⟩ := at_T33 HR0.out x7_1 p218 q218
                      cases e218
                      replace hx218_0 := (HB.out.cell (World.block_lt_of_cell? w _ hx218_0)).trans hx218_0
                      replace hx218_1 := (HB.out.cell (World.block_lt_of_cell? w _ hx218_1)).trans hx218_1
                      replace hx218_2 := (HB.out.cell (World.block_lt_of_cell? w _ hx218_2)).trans hx218_2
                      replace hx218_3 := (HB.out.cell (World.block_lt_of_cell? w _ hx218_3)).trans hx218_3
                      replace hx218_4 := (HB.out.cell (World.block_lt_of_cell? w _ hx218_4)).trans hx218_4
                      replace hx218_5 := (HB.out.cell (World.block_lt_of_cell? w _ hx218_5)).trans hx218_5
                      replace p218 := eq_true p218
                      replace q218 := eq_true q218
                      try go_wp2_with (first | ((with_reducible refine gate_dst (N := 4) rfl ?_); refine box_event ?hg (N := 4) ?hd (cs := #[.int .i64 0, .int .i64 0, .int .i64 0, .int .i64 0, .int .i64 0, .string (⟨#[]⟩ : ByteArray)]) (t := 33) ?hr ?_; (case hd => rfl); (case hg => rfl); (case hr => first | (go_simp; done) | (go_simp; rfl)); intro gb219 hg w17 hbox hb; have n0_ := Aside0.mk (below_step (hb_ HB.out) hb); have n1_ := Aside0.mk (hbox); have n2_ := Aside0.mk ((by rw [hg]; exact (below_size (hb_ HB.out)) : w.heap.size ≤ gb219)); have n3_ := Aside0.mk ((by rw [hg]; exact (below_size (hb_ HB.out)) : w.heap.size ≤ gb219)); clear HB; have HB := n0_; have BK219 := n1_; have GW219 := n2_; have GE219 := n3_; clear n0_ n1_ n2_ n3_; clear hb hbox hg; have hcz18_0 := bc_ BK219.out 0 (.int .i64 0) rfl; have hcz18_1 := bc_ BK219.out 1 (.int .i64 0) rfl; have hcz18_2 := bc_ BK219.out 2 (.int .i64 0) rfl; have hcz18_3 := bc_ BK219.out 3 (.int .i64 0) rfl; have hcz18_4 := bc_ BK219.out 4 (.int .i64 0) rfl; have hcz18_5 : w17.cell? ⟨gb219, 5, none⟩ = some (.string (⟨#[]⟩ : ByteArray)) := (blk_cell BK219.out 5).trans rfl; have hfz18_0 := blk_frozen BK219.out 0; have hfz18_1 := blk_frozen BK219.out 1; have hfz18_2 := blk_frozen BK219.out 2; have hfz18_3 := blk_frozen BK219.out 3; have hfz18_4 := blk_frozen BK219.out 4; have hfz18_5 := blk_frozen BK219.out 5))
                      have n0_ : Aside0 (((((((w17.setCell ⟨gb219, 0, none⟩ (.int .i64 ((rd_T33 l0 x7_1).f0))).setCell ⟨gb219, 1, none⟩ (.int .i64 ((rd_T33 l0 x7_1).f1))).setCell ⟨gb219, 2, none⟩ (.int .i64 ((rd_T33 l0 x7_1).f2))).setCell ⟨gb219, 3, none⟩ (.int .i64 ((rd_T33 l0 x7_1).f3))).setCell ⟨gb219, 4, none⟩ (.int .i64 ((rd_T33 l0 x7_1).f4))).setCell ⟨gb219, 5, none⟩ (.string ((rd_T33 l0 x7_1).f5))).heap[gb219]? = some (.cells #[.int .i64 ((rd_T33 l0 x7_1).f0), .int .i64 ((rd_T33 l0 x7_1).f1), .int .i64 ((rd_T33 l0 x7_1).f2), .int .i64 ((rd_T33 l0 x7_1).f3), .int .i64 ((rd_T33 l0 x7_1).f4), .string ((rd_T33 l0 x7_1).f5)] 33 (0, 0))) := ⟨by (with_reducible repeat (first | refine blk_drewN ?_ _ | refine blk_drew ?_ | refine blk_alloc ?_ _)); refine blk_put (cs := #[.int .i64 ((rd_T33 l0 x7_1).f0), .int .i64 ((rd_T33 l0 x7_1).f1), .int .i64 ((rd_T33 l0 x7_1).f2), .int .i64 ((rd_T33 l0 x7_1).f3), .int .i64 ((rd_T33 l0 x7_1).f4), .string (⟨#[]⟩ : ByteArray)]) ?_ 5 _ rfl; (with_reducible repeat (first | refine blk_drewN ?_ _ | refine blk_drew ?_ | refine blk_alloc ?_ _)); refine blk_put (cs := #[.int .i64 ((rd_T33 l0 x7_1).f0), .int .i64 ((rd_T33 l0 x7_1).f1), .int .i64 ((rd_T33 l0 x7_1).f2), .int .i64 ((rd_T33 l0 x7_1).f3), .int .i64 0, .string (⟨#[]⟩ : ByteArray)]) ?_ 4 _ rfl; (with_reducible repeat (first | refine blk_drewN ?_ _ | refine blk_drew ?_ | refine blk_alloc ?_ _)); refine blk_put (cs := #[.int .i64 ((rd_T33 l0 x7_1).f0), .int .i64 ((rd_T33 l0 x7_1).f1), .int .i64 ((rd_T33 l0 x7_1).f2), .int .i64 0, .int .i64 0, .string (⟨#[]⟩ : ByteArray)]) ?_ 3 _ rfl; (with_reducible repeat (first | refine blk_drewN ?_ _ | refine blk_drew ?_ | refine blk_alloc ?_ _)); refine blk_put (cs := #[.int .i64 ((rd_T33 l0 x7_1).f0), .int .i64 ((rd_T33 l0 x7_1).f1), .int .i64 0, .int .i64 0, .int .i64 0, .string (⟨#[]⟩ : ByteArray)]) ?_ 2 _ rfl; (with_reducible repeat (first | refine blk_drewN ?_ _ | refine blk_drew ?_ | refine blk_alloc ?_ _)); refine blk_put (cs := #[.int .i64 ((rd_T33 l0 x7_1).f0), .int .i64 0, .int .i64 0, .int .i64 0, .int .i64 0, .string (⟨#[]⟩ : ByteArray)]) ?_ 1 _ rfl; (with_reducible repeat (first | refine blk_drewN ?_ _ | refine blk_drew ?_ | refine blk_alloc ?_ _)); refine blk_put (cs := #[.int .i64 0, .int .i64 0, .int .i64 0, .int .i64 0, .int .i64 0, .string (⟨#[]⟩ : ByteArray)]) ?_ 0 _ rfl; (with_reducible repeat (first | refine blk_drewN ?_ _ | refine blk_drew ?_ | refine blk_alloc ?_ _)); exact BK219.out⟩
                      have n1_ : Aside0 (Below w.heap.size w ((((((w17.setCell ⟨gb219, 0, none⟩ (.int .i64 ((rd_T33 l0 x7_1).f0))).setCell ⟨gb219, 1, none⟩ (.int .i64 ((rd_T33 l0 x7_1).f1))).setCell ⟨gb219, 2, none⟩ (.int .i64 ((rd_T33 l0 x7_1).f2))).setCell ⟨gb219, 3, none⟩ (.int .i64 ((rd_T33 l0 x7_1).f3))).setCell ⟨gb219, 4, none⟩ (.int .i64 ((rd_T33 l0 x7_1).f4))).setCell ⟨gb219, 5, none⟩ (.string ((rd_T33 l0 x7_1).f5)))) := ⟨hb1_ HB.out GE219.out⟩
                      (try clear BK219)
                      (try clear HB)
                      generalize ((((((w17.setCell ⟨gb219, 0, none⟩ (.int .i64 ((rd_T33 l0 x7_1).f0))).setCell ⟨gb219, 1, none⟩ (.int .i64 ((rd_T33 l0 x7_1).f1))).setCell ⟨gb219, 2, none⟩ (.int .i64 ((rd_T33 l0 x7_1).f2))).setCell ⟨gb219, 3, none⟩ (.int .i64 ((rd_T33 l0 x7_1).f3))).setCell ⟨gb219, 4, none⟩ (.int .i64 ((rd_T33 l0 x7_1).f4))).setCell ⟨gb219, 5, none⟩ (.string ((rd_T33 l0 x7_1).f5))) = w19 at n0_ n1_ ⊢
                      have BK219 := n0_
                      have HB := n1_
                      clear n0_ n1_
                      have n0_ := Aside0.mk (blk_drew BK219.out)
                      have n1_ := Aside0.mk (below_drew1 HB.out)
                      clear BK219
                      clear HB
                      have BK219 := n0_
                      have HB := n1_
                      clear n0_ n1_
                      have p221 : 0 ≤ ((ji8) : Int) := of_decide_eq_true (by first | (with_reducible assumption) | assumption)
                      have q221 : (ji8) < (l0.length : Int) := of_decide_eq_true (by first | (with_reducible assumption) | assumption)
                      obtain ⟨ad221, e221, hx221_0, hx221_1, hx221_2, hx221_3, hx221_4, hx221_5⟩ := at_T33 HR0.out (ji8) p221 q221
                      have hw221_5 := hx221_5
                      have hw221_4 := hx221_4
                      have hw221_3 := hx221_3
                      have hw221_2 := hx221_2
                      have hw221_1 := hx221_1
                      have hw221_0 := hx221_0
                      obtain rfl : ad218 = ad221 := (by injection e221)
                      replace hx221_0 := (HB.out.cell (World.block_lt_of_cell? w _ hx221_0)).trans hx221_0
                      replace hx221_1 := (HB.out.cell (World.block_lt_of_cell? w _ hx221_1)).trans hx221_1
                      replace hx221_2 := (HB.out.cell (World.block_lt_of_cell? w _ hx221_2)).trans hx221_2
                      replace hx221_3 := (HB.out.cell (World.block_lt_of_cell? w _ hx221_3)).trans hx221_3
                      replace hx221_4 := (HB.out.cell (World.block_lt_of_cell? w _ hx221_4)).trans hx221_4
                      replace hx221_5 := (HB.out.cell (World.block_lt_of_cell? w _ hx221_5)).trans hx221_5
                      replace p221 := eq_true p221
                      replace q221 := eq_true q221
                      refine start_ (n := 18) (S := fun w' => w'.cell? ⟨gb219, 0, none⟩ = some (.int .i64 ((rd_T33 l0 x7_1).f0)) ∧ w'.cell? ⟨gb219, 1, none⟩ = some (.int .i64 ((rd_T33 l0 x7_1).f1)) ∧ w'.cell? ⟨gb219, 2, none⟩ = some (.int .i64 ((rd_T33 l0 x7_1).f2)) ∧ w'.cell? ⟨gb219, 3, none⟩ = some (.int .i64 ((rd_T33 l0 x7_1).f3)) ∧ w'.cell? ⟨gb219, 4, none⟩ = some (.int .i64 ((rd_T33 l0 x7_1).f4)) ∧ w'.cell? ⟨gb219, 5, none⟩ = some (.string ((rd_T33 l0 x7_1).f5)) ∧ w'.cell? (ad218.add (((ji8)).toNat * 6)) = some (.int .i64 ((rd_T33 l0 (ji8)).f0)) ∧ w'.cell? ⟨(ad218.add (((ji8)).toNat * 6)).block, (ad218.add (((ji8)).toNat * 6)).off + 1, none⟩ = some (.int .i64 ((rd_T33 l0 (ji8)).f1)) ∧ w'.cell? ⟨(ad218.add (((ji8)).toNat * 6)).block, (ad218.add (((ji8)).toNat * 6)).off + 2, none⟩ = some (.int .i64 ((rd_T33 l0 (ji8)).f2)) ∧ w'.cell? ⟨(ad218.add (((ji8)).toNat * 6)).block, (ad218.add (((ji8)).toNat * 6)).off + 3, none⟩ = some (.int .i64 ((rd_T33 l0 (ji8)).f3)) ∧ w'.cell? ⟨(ad218.add (((ji8)).toNat * 6)).block, (ad218.add (((ji8)).toNat * 6)).off + 4, none⟩ = some (.int .i64 ((rd_T33 l0 (ji8)).f4)) ∧ w'.cell? ⟨(ad218.add (((ji8)).toNat * 6)).block, (ad218.add (((ji8)).toNat * 6)).off + 5, none⟩ = some (.string ((rd_T33 l0 (ji8)).f5))) (ds := []) #[false, false, false, false, false, false, false, false, false, false, false, false, false, false, false, false, false, false] (by kernel_rfl) rfl rfl ⟨(blk_cell BK219.out 0).trans rfl, (blk_cell BK219.out 1).trans rfl, (blk_cell BK219.out 2).trans rfl, (blk_cell BK219.out 3).trans rfl, (blk_cell BK219.out 4).trans rfl, (blk_cell BK219.out 5).trans rfl, ((HB.out.cell (World.block_lt_of_cell? w _ hw221_0)).trans hw221_0), ((HB.out.cell (World.block_lt_of_cell? w _ hw221_1)).trans hw221_1), ((HB.out.cell (World.block_lt_of_cell? w _ hw221_2)).trans hw221_2), ((HB.out.cell (World.block_lt_of_cell? w _ hw221_3)).trans hw221_3), ((HB.out.cell (World.block_lt_of_cell? w _ hw221_4)).trans hw221_4), ((HB.out.cell (World.block_lt_of_cell? w _ hw221_5)).trans hw221_5)⟩ (fun hHeld => ?_); refine with_tabW impl_BusOk.tab4 impl_BusOk.bits4 (fun HT_ HW_ => ?_)
                      generalize w19.drew = w20 at BK219 HB hx221_0 hx221_1 hx221_2 hx221_3 hx221_4 hx221_5 hHeld ⊢
                      refine take_ (i := 0) (N := some 12) (v := ?_) (a' := ?_) #[true, false, false, false, false, false, false, false, false, false, false, false, false, false, false, false, false, false] rfl rfl (take_ofW HT_.out HW_.out (by kernel_rfl)) (fun _ _ _ h => h) (Or.inl ⟨by rfl, ?_⟩) hHeld ?_ ?_
                      rotate_left
                      · rintro w' ⟨s0, s1, s2, s3, s4, s5, s6, s7, s8, s9, s10, s11⟩
                        go_simp
                        with_reducible rfl
                      rotate_left
                      · simp only [Act.put, List.setIfInBounds_toArray, List.set_cons_zero, List.set_cons_succ, i64_w, i32_w]
                        rfl
                      refine one_ (i := 1) (N := some 13) #[true, true, false, false, false, false, false, false, false, false, false, false, false, false, false, false, false, false] rfl rfl (one_of HT_.out (by kernel_rfl)) (by decide) (fun K hK => ?_)
                      refine goes_ Try.func56 (by kernel_rfl) rfl #[.agg #[.int .i64 ((rd_T33 l0 x7_1).f0), .int .i64 ((rd_T33 l0 x7_1).f1), .int .i64 ((rd_T33 l0 x7_1).f2), .int .i64 ((rd_T33 l0 x7_1).f3), .int .i64 ((rd_T33 l0 x7_1).f4), .string ((rd_T33 l0 x7_1).f5)]] (by rfl) rfl rfl arr_ ?_
                      with_reducible refine (impl_FrameOk.calls ((rd_T33 l0 x7_1).f0) ((rd_T33 l0 x7_1).f1) ((rd_T33 l0 x7_1).f2) ((rd_T33 l0 x7_1).f3) ((rd_T33 l0 x7_1).f4) ((rd_T33 l0 x7_1).f5) true _ A5.out).mono ?_
                      rintro e w21 ⟨rfl, hb⟩
                      refine ⟨_, rfl, ?_⟩
                      have n0_ := Aside0.mk (bb_ BK219.out hb)
                      have n1_ := Aside0.mk (below_step (hb1_ HB.out GE219.out) hb)
                      clear BK219
                      clear HB
                      have BK219 := n0_
                      have HB := n1_
                      clear n0_ n1_
                      (try clear hb)
                      (try clear hb2)
                      (try clear hk)
                      (try clear hi)
                      refine hK.out _ _ ⟨(blk_cell BK219.out 0).trans rfl, (blk_cell BK219.out 1).trans rfl, (blk_cell BK219.out 2).trans rfl, (blk_cell BK219.out 3).trans rfl, (blk_cell BK219.out 4).trans rfl, (blk_cell BK219.out 5).trans rfl, ((HB.out.cell (World.block_lt_of_cell? w _ hw221_0)).trans hw221_0), ((HB.out.cell (World.block_lt_of_cell? w _ hw221_1)).trans hw221_1), ((HB.out.cell (World.block_lt_of_cell? w _ hw221_2)).trans hw221_2), ((HB.out.cell (World.block_lt_of_cell? w _ hw221_3)).trans hw221_3), ((HB.out.cell (World.block_lt_of_cell? w _ hw221_4)).trans hw221_4), ((HB.out.cell (World.block_lt_of_cell? w _ hw221_5)).trans hw221_5)⟩ (fun hHeld => ?_)
                      clear hK K
                      refine norm_ (a' := ?_) ?_ ?_
                      rotate_left
                      · show Act.put _ (some 13) _ = _
                        simp only [Act.put, List.setIfInBounds_toArray, List.set_cons_zero, List.set_cons_succ, i64_w, i32_w]
                        rfl
                      refine pure_ (i := 2) (N := some 14) (v := ?_) (a' := ?_) #[true, true, true, false, false, false, false, false, false, false, false, false, false, false, false, false, false, false] rfl rfl (any_of HT_.out (by kernel_rfl)) (fun _ _ _ h => h) (Or.inl ⟨by rfl, ?_⟩) ?_ ?_
                      rotate_left
                      · intro w'
                        go_simp
                        with_reducible rfl
                      rotate_left
                      · simp only [Act.put, List.setIfInBounds_toArray, List.set_cons_zero, List.set_cons_succ, i64_w, i32_w]
                        rfl
                      refine pure_ (i := 3) (N := some 15) (v := ?_) (a' := ?_) #[true, true, true, true, false, false, false, false, false, false, false, false, false, false, false, false, false, false] rfl rfl (any_of HT_.out (by kernel_rfl)) (fun _ _ _ h => h) (Or.inl ⟨by rfl, ?_⟩) ?_ ?_
                      rotate_left
                      · intro w'
                        go_simp
                        with_reducible rfl
                      rotate_left
                      · simp only [Act.put, List.setIfInBounds_toArray, List.set_cons_zero, List.set_cons_succ, i64_w, i32_w]
                        rfl
                      refine pure_ (i := 4) (N := some 16) (v := ?_) (a' := ?_) #[true, true, true, true, true, false, false, false, false, false, false, false, false, false, false, false, false, false] rfl rfl (any_of HT_.out (by kernel_rfl)) (fun _ _ _ h => h) (Or.inl ⟨by rfl, ?_⟩) ?_ ?_
                      rotate_left
                      · intro w'
                        go_simp
                        with_reducible rfl
                      rotate_left
                      · simp only [Act.put, List.setIfInBounds_toArray, List.set_cons_zero, List.set_cons_succ, i64_w, i32_w]
                        rfl
                      refine pure_ (i := 5) (N := some 17) (v := ?_) (a' := ?_) #[true, true, true, true, true, true, false, false, false, false, false, false, false, false, false, false, false, false] rfl rfl (any_of HT_.out (by kernel_rfl)) (fun _ _ _ h => h) (Or.inl ⟨by rfl, ?_⟩) ?_ ?_
                      rotate_left
                      · intro w'
                        go_simp
                        with_reducible rfl
                      rotate_left
                      · simp only [Act.put, List.setIfInBounds_toArray, List.set_cons_zero, List.set_cons_succ, i64_w, i32_w]
                        rfl
                      refine pure_ (i := 6) (N := some 18) (v := ?_) (a' := ?_) #[true, true, true, true, true, true, true, false, false, false, false, false, false, false, false, false, false, false] rfl rfl (any_of HT_.out (by kernel_rfl)) (fun _ _ _ h => h) (Or.inl ⟨by rfl, ?_⟩) ?_ ?_
                      rotate_left
                      · intro w'
                        go_simp
                        with_reducible rfl
                      rotate_left
                      · simp only [Act.put, List.setIfInBounds_toArray, List.set_cons_zero, List.set_cons_succ, i64_w, i32_w]
                        rfl
                      refine pure_ (i := 7) (N := some 19) (v := ?_) (a' := ?_) #[true, true, true, true, true, true, true, true, false, false, false, false, false, false, false, false, false, false] rfl rfl (any_of HT_.out (by kernel_rfl)) (fun _ _ _ h => h) (Or.inl ⟨by rfl, ?_⟩) ?_ ?_
                      rotate_left
                      · intro w'
                        go_simp
                        with_reducible rfl
                      rotate_left
                      · simp only [Act.put, List.setIfInBounds_toArray, List.set_cons_zero, List.set_cons_succ, i64_w, i32_w]
                        rfl
                      refine pure_ (i := 9) (N := some 21) (v := ?_) (a' := ?_) #[true, true, true, true, true, true, true, true, false, true, false, false, false, false, false, false, false, false] rfl rfl (any_of HT_.out (by kernel_rfl)) (fun _ _ _ h => h) (Or.inl ⟨by rfl, ?_⟩) ?_ ?_
                      rotate_left
                      · intro w'
                        go_simp
                        with_reducible rfl
                      rotate_left
                      · simp only [Act.put, List.setIfInBounds_toArray, List.set_cons_zero, List.set_cons_succ, i64_w, i32_w]
                        rfl
                      refine pure_ (i := 10) (N := some 22) (v := ?_) (a' := ?_) #[true, true, true, true, true, true, true, true, false, true, true, false, false, false, false, false, false, false] rfl rfl (any_of HT_.out (by kernel_rfl)) (fun _ _ _ h => h) (Or.inl ⟨by rfl, ?_⟩) ?_ ?_
                      rotate_left
                      · intro w'
                        go_simp
                        with_reducible rfl
                      rotate_left
                      · simp only [Act.put, List.setIfInBounds_toArray, List.set_cons_zero, List.set_cons_succ, i64_w, i32_w]
                        rfl
                      refine pure_ (i := 11) (N := some 23) (v := ?_) (a' := ?_) #[true, true, true, true, true, true, true, true, false, true, true, true, false, false, false, false, false, false] rfl rfl (any_of HT_.out (by kernel_rfl)) (fun _ _ _ h => h) (Or.inl ⟨by rfl, ?_⟩) ?_ ?_
                      rotate_left
                      · intro w'
                        go_simp
                        with_reducible rfl
                      rotate_left
                      · simp only [Act.put, List.setIfInBounds_toArray, List.set_cons_zero, List.set_cons_succ, i64_w, i32_w]
                        rfl
                      refine pure_ (i := 12) (N := some 24) (v := ?_) (a' := ?_) #[true, true, true, true, true, true, true, true, false, true, true, true, true, false, false, false, false, false] rfl rfl (any_of HT_.out (by kernel_rfl)) (fun _ _ _ h => h) (Or.inl ⟨by rfl, ?_⟩) ?_ ?_
                      rotate_left
                      · intro w'
                        go_simp
                        with_reducible rfl
                      rotate_left
                      · simp only [Act.put, List.setIfInBounds_toArray, List.set_cons_zero, List.set_cons_succ, i64_w, i32_w]
                        rfl
                      refine pure_ (i := 13) (N := some 25) (v := ?_) (a' := ?_) #[true, true, true, true, true, true, true, true, false, true, true, true, true, true, false, false, false, false] rfl rfl (any_of HT_.out (by kernel_rfl)) (fun _ _ _ h => h) (Or.inl ⟨by rfl, ?_⟩) ?_ ?_
                      rotate_left
                      · intro w'
                        go_simp
                        with_reducible rfl
                      rotate_left
                      · simp only [Act.put, List.setIfInBounds_toArray, List.set_cons_zero, List.set_cons_succ, i64_w, i32_w]
                        rfl
                      refine take_ (i := 8) (N := some 20) (v := ?_) (a' := ?_) #[true, true, true, true, true, true, true, true, true, true, true, true, true, true, false, false, false, false] rfl rfl (take_ofW HT_.out HW_.out (by kernel_rfl)) (fun _ _ _ h => h) (Or.inl ⟨by rfl, ?_⟩) hHeld ?_ ?_
                      rotate_left
                      · rintro w' ⟨s0, s1, s2, s3, s4, s5, s6, s7, s8, s9, s10, s11⟩
                        go_simp
                        with_reducible rfl
                      rotate_left
                      · simp only [Act.put, List.setIfInBounds_toArray, List.set_cons_zero, List.set_cons_succ, i64_w, i32_w]
                        rfl
                      refine take_ (i := 14) (N := some 26) (v := ?_) (a' := ?_) #[true, true, true, true, true, true, true, true, true, true, true, true, true, true, true, false, false, false] rfl rfl (take_ofW HT_.out HW_.out (by kernel_rfl)) (fun _ _ _ h => h) (Or.inl ⟨by rfl, ?_⟩) hHeld ?_ ?_
                      rotate_left
                      · rintro w' ⟨s0, s1, s2, s3, s4, s5, s6, s7, s8, s9, s10, s11⟩
                        go_simp
                        with_reducible rfl
                      rotate_left
                      · simp only [Act.put, List.setIfInBounds_toArray, List.set_cons_zero, List.set_cons_succ, i64_w, i32_w]
                        rfl
                      refine pure_ (i := 15) (N := some 27) (v := ?_) (a' := ?_) #[true, true, true, true, true, true, true, true, true, true, true, true, true, true, true, true, false, false] rfl rfl (any_of HT_.out (by kernel_rfl)) (fun _ _ _ h => h) (Or.inl ⟨by rfl, ?_⟩) ?_ ?_
                      rotate_left
                      · intro w'
                        go_simp
                        with_reducible rfl
                      rotate_left
                      · simp only [Act.put, List.setIfInBounds_toArray, List.set_cons_zero, List.set_cons_succ, i64_w, i32_w]
                        rfl
                      refine pure_ (i := 16) (N := some 28) (v := ?_) (a' := ?_) #[true, true, true, true, true, true, true, true, true, true, true, true, true, true, true, true, true, false] rfl rfl (any_of HT_.out (by kernel_rfl)) (fun _ _ _ h => h) (Or.inl ⟨by rfl, ?_⟩) ?_ ?_
                      rotate_left
                      · intro w'
                        go_simp
                        with_reducible rfl
                      rotate_left
                      · simp only [Act.put, List.setIfInBounds_toArray, List.set_cons_zero, List.set_cons_succ, i64_w, i32_w]
                        rfl
                      refine pure_ (i := 17) (N := some 29) (v := ?_) (a' := ?_) #[true, true, true, true, true, true, true, true, true, true, true, true, true, true, true, true, true, true] rfl rfl (any_of HT_.out (by kernel_rfl)) (fun _ _ _ h => h) (Or.inl ⟨by rfl, ?_⟩) ?_ ?_
                      rotate_left
                      · intro w'
                        go_simp
                        with_reducible rfl
                      rotate_left
                      · simp only [Act.put, List.setIfInBounds_toArray, List.set_cons_zero, List.set_cons_succ, i64_w, i32_w]
                        rfl
                      refine done_ (done_of HT_.out (by kernel_rfl)) ?_
                      try go_wp2
                      go_roundg k1
                      case measure => have := HK1.out; omega
                      case rel => exact ⟨(wrap64 (x7_1 + 1)), (by first | rfl | (simp; done) | (simp [*]; done)), H', ⟨by have := HK1.out; omega⟩, ⟨hb1_ HB.out GE219.out⟩⟩
                  · rw [if_neg c10] at H
                    exact absurd H (by simp)
                · rw [if_neg c9] at H
                  exact absurd H (by simp)
              · rw [if_neg c7] at H
                have c7b0 : decide (0 < x7_1) = false := decide_eq_false c7
                clear c7
                have H' := Aside0.mk H
                clear H
                have p218 : 0 ≤ (x7_1 : Int) := of_decide_eq_true (by first | (with_reducible assumption) | assumption)
                have q218 : x7_1 < (l0.length : Int) := of_decide_eq_true (by first | (with_reducible assumption) | assumption)
                obtain ⟨ad218, e218, hx218_0, hx218_1, hx218_2, hx218_3, hx218_4, hx218_5⟩ := at_T33 HR0.out x7_1 p218 q218
                cases e218
                replace hx218_0 := (HB.out.cell (World.block_lt_of_cell? w _ hx218_0)).trans hx218_0
                replace hx218_1 := (HB.out.cell (World.block_lt_of_cell? w _ hx218_1)).trans hx218_1
                replace hx218_2 := (HB.out.cell (World.block_lt_of_cell? w _ hx218_2)).trans hx218_2
                replace hx218_3 := (HB.out.cell (World.block_lt_of_cell? w _ hx218_3)).trans hx218_3
                replace hx218_4 := (HB.out.cell (World.block_lt_of_cell? w _ hx218_4)).trans hx218_4
                replace hx218_5 := (HB.out.cell (World.block_lt_of_cell? w _ hx218_5)).trans hx218_5
                replace p218 := eq_true p218
                replace q218 := eq_true q218
                try go_wp2_with (first | ((with_reducible refine gate_dst (N := 4) rfl ?_); refine box_event ?hg (N := 4) ?hd (cs := #[.int .i64 0, .int .i64 0, .int .i64 0, .int .i64 0, .int .i64 0, .string (⟨#[]⟩ : ByteArray)]) (t := 33) ?hr ?_; (case hd => rfl); (case hg => rfl); (case hr => first | (go_simp; done) | (go_simp; rfl)); intro gb219 hg w22 hbox hb; have n0_ := Aside0.mk (below_step (hb_ HB.out) hb); have n1_ := Aside0.mk (hbox); have n2_ := Aside0.mk ((by rw [hg]; exact (below_size (hb_ HB.out)) : w.heap.size ≤ gb219)); have n3_ := Aside0.mk ((by rw [hg]; exact (below_size (hb_ HB.out)) : w.heap.size ≤ gb219)); clear HB; have HB := n0_; have BK219 := n1_; have GW219 := n2_; have GE219 := n3_; clear n0_ n1_ n2_ n3_; clear hb hbox hg; have hcz23_0 := bc_ BK219.out 0 (.int .i64 0) rfl; have hcz23_1 := bc_ BK219.out 1 (.int .i64 0) rfl; have hcz23_2 := bc_ BK219.out 2 (.int .i64 0) rfl; have hcz23_3 := bc_ BK219.out 3 (.int .i64 0) rfl; have hcz23_4 := bc_ BK219.out 4 (.int .i64 0) rfl; have hcz23_5 : w22.cell? ⟨gb219, 5, none⟩ = some (.string (⟨#[]⟩ : ByteArray)) := (blk_cell BK219.out 5).trans rfl; have hfz23_0 := blk_frozen BK219.out 0; have hfz23_1 := blk_frozen BK219.out 1; have hfz23_2 := blk_frozen BK219.out 2; have hfz23_3 := blk_frozen BK219.out 3; have hfz23_4 := blk_frozen BK219.out 4; have hfz23_5 := blk_frozen BK219.out 5))
                have n0_ : Aside0 (((((((w22.setCell ⟨gb219, 0, none⟩ (.int .i64 ((rd_T33 l0 x7_1).f0))).setCell ⟨gb219, 1, none⟩ (.int .i64 ((rd_T33 l0 x7_1).f1))).setCell ⟨gb219, 2, none⟩ (.int .i64 ((rd_T33 l0 x7_1).f2))).setCell ⟨gb219, 3, none⟩ (.int .i64 ((rd_T33 l0 x7_1).f3))).setCell ⟨gb219, 4, none⟩ (.int .i64 ((rd_T33 l0 x7_1).f4))).setCell ⟨gb219, 5, none⟩ (.string ((rd_T33 l0 x7_1).f5))).heap[gb219]? = some (.cells #[.int .i64 ((rd_T33 l0 x7_1).f0), .int .i64 ((rd_T33 l0 x7_1).f1), .int .i64 ((rd_T33 l0 x7_1).f2), .int .i64 ((rd_T33 l0 x7_1).f3), .int .i64 ((rd_T33 l0 x7_1).f4), .string ((rd_T33 l0 x7_1).f5)] 33 (0, 0))) := ⟨by (with_reducible repeat (first | refine blk_drewN ?_ _ | refine blk_drew ?_ | refine blk_alloc ?_ _)); refine blk_put (cs := #[.int .i64 ((rd_T33 l0 x7_1).f0), .int .i64 ((rd_T33 l0 x7_1).f1), .int .i64 ((rd_T33 l0 x7_1).f2), .int .i64 ((rd_T33 l0 x7_1).f3), .int .i64 ((rd_T33 l0 x7_1).f4), .string (⟨#[]⟩ : ByteArray)]) ?_ 5 _ rfl; (with_reducible repeat (first | refine blk_drewN ?_ _ | refine blk_drew ?_ | refine blk_alloc ?_ _)); refine blk_put (cs := #[.int .i64 ((rd_T33 l0 x7_1).f0), .int .i64 ((rd_T33 l0 x7_1).f1), .int .i64 ((rd_T33 l0 x7_1).f2), .int .i64 ((rd_T33 l0 x7_1).f3), .int .i64 0, .string (⟨#[]⟩ : ByteArray)]) ?_ 4 _ rfl; (with_reducible repeat (first | refine blk_drewN ?_ _ | refine blk_drew ?_ | refine blk_alloc ?_ _)); refine blk_put (cs := #[.int .i64 ((rd_T33 l0 x7_1).f0), .int .i64 ((rd_T33 l0 x7_1).f1), .int .i64 ((rd_T33 l0 x7_1).f2), .int .i64 0, .int .i64 0, .string (⟨#[]⟩ : ByteArray)]) ?_ 3 _ rfl; (with_reducible repeat (first | refine blk_drewN ?_ _ | refine blk_drew ?_ | refine blk_alloc ?_ _)); refine blk_put (cs := #[.int .i64 ((rd_T33 l0 x7_1).f0), .int .i64 ((rd_T33 l0 x7_1).f1), .int .i64 0, .int .i64 0, .int .i64 0, .string (⟨#[]⟩ : ByteArray)]) ?_ 2 _ rfl; (with_reducible repeat (first | refine blk_drewN ?_ _ | refine blk_drew ?_ | refine blk_alloc ?_ _)); refine blk_put (cs := #[.int .i64 ((rd_T33 l0 x7_1).f0), .int .i64 0, .int .i64 0, .int .i64 0, .int .i64 0, .string (⟨#[]⟩ : ByteArray)]) ?_ 1 _ rfl; (with_reducible repeat (first | refine blk_drewN ?_ _ | refine blk_drew ?_ | refine blk_alloc ?_ _)); refine blk_put (cs := #[.int .i64 0, .int .i64 0, .int .i64 0, .int .i64 0, .int .i64 0, .string (⟨#[]⟩ : ByteArray)]) ?_ 0 _ rfl; (with_reducible repeat (first | refine blk_drewN ?_ _ | refine blk_drew ?_ | refine blk_alloc ?_ _)); exact BK219.out⟩
                have n1_ : Aside0 (Below w.heap.size w ((((((w22.setCell ⟨gb219, 0, none⟩ (.int .i64 ((rd_T33 l0 x7_1).f0))).setCell ⟨gb219, 1, none⟩ (.int .i64 ((rd_T33 l0 x7_1).f1))).setCell ⟨gb219, 2, none⟩ (.int .i64 ((rd_T33 l0 x7_1).f2))).setCell ⟨gb219, 3, none⟩ (.int .i64 ((rd_T33 l0 x7_1).f3))).setCell ⟨gb219, 4, none⟩ (.int .i64 ((rd_T33 l0 x7_1).f4))).setCell ⟨gb219, 5, none⟩ (.string ((rd_T33 l0 x7_1).f5)))) := ⟨hb1_ HB.out GE219.out⟩
                (try clear BK219)
                (try clear HB)
                generalize ((((((w22.setCell ⟨gb219, 0, none⟩ (.int .i64 ((rd_T33 l0 x7_1).f0))).setCell ⟨gb219, 1, none⟩ (.int .i64 ((rd_T33 l0 x7_1).f1))).setCell ⟨gb219, 2, none⟩ (.int .i64 ((rd_T33 l0 x7_1).f2))).setCell ⟨gb219, 3, none⟩ (.int .i64 ((rd_T33 l0 x7_1).f3))).setCell ⟨gb219, 4, none⟩ (.int .i64 ((rd_T33 l0 x7_1).f4))).setCell ⟨gb219, 5, none⟩ (.string ((rd_T33 l0 x7_1).f5))) = w24 at n0_ n1_ ⊢
                have BK219 := n0_
                have HB := n1_
                clear n0_ n1_
                have n0_ := Aside0.mk (blk_drew BK219.out)
                have n1_ := Aside0.mk (below_drew1 HB.out)
                clear BK219
                clear HB
                have BK219 := n0_
                have HB := n1_
                clear n0_ n1_
                refine start_ (n := 18) (S := fun w' => w'.cell? ⟨gb219, 0, none⟩ = some (.int .i64 ((rd_T33 l0 x7_1).f0)) ∧ w'.cell? ⟨gb219, 1, none⟩ = some (.int .i64 ((rd_T33 l0 x7_1).f1)) ∧ w'.cell? ⟨gb219, 2, none⟩ = some (.int .i64 ((rd_T33 l0 x7_1).f2)) ∧ w'.cell? ⟨gb219, 3, none⟩ = some (.int .i64 ((rd_T33 l0 x7_1).f3)) ∧ w'.cell? ⟨gb219, 4, none⟩ = some (.int .i64 ((rd_T33 l0 x7_1).f4)) ∧ w'.cell? ⟨gb219, 5, none⟩ = some (.string ((rd_T33 l0 x7_1).f5))) (ds := []) #[false, false, false, false, false, false, false, false, false, false, false, false, false, false, false, false, false, false] (by kernel_rfl) rfl rfl ⟨(blk_cell BK219.out 0).trans rfl, (blk_cell BK219.out 1).trans rfl, (blk_cell BK219.out 2).trans rfl, (blk_cell BK219.out 3).trans rfl, (blk_cell BK219.out 4).trans rfl, (blk_cell BK219.out 5).trans rfl⟩ (fun hHeld => ?_); refine with_tabW impl_BusOk.tab4 impl_BusOk.bits4 (fun HT_ HW_ => ?_)
                generalize w24.drew = w25 at BK219 HB hHeld ⊢
                refine take_ (i := 0) (N := some 12) (v := ?_) (a' := ?_) #[true, false, false, false, false, false, false, false, false, false, false, false, false, false, false, false, false, false] rfl rfl (take_ofW HT_.out HW_.out (by kernel_rfl)) (fun _ _ _ h => h) (Or.inl ⟨by rfl, ?_⟩) hHeld ?_ ?_
                rotate_left
                · rintro w' ⟨s0, s1, s2, s3, s4, s5⟩
                  go_simp
                  with_reducible rfl
                rotate_left
                · simp only [Act.put, List.setIfInBounds_toArray, List.set_cons_zero, List.set_cons_succ, i64_w, i32_w]
                  rfl
                refine one_ (i := 1) (N := some 13) #[true, true, false, false, false, false, false, false, false, false, false, false, false, false, false, false, false, false] rfl rfl (one_of HT_.out (by kernel_rfl)) (by decide) (fun K hK => ?_)
                refine goes_ Try.func56 (by kernel_rfl) rfl #[.agg #[.int .i64 ((rd_T33 l0 x7_1).f0), .int .i64 ((rd_T33 l0 x7_1).f1), .int .i64 ((rd_T33 l0 x7_1).f2), .int .i64 ((rd_T33 l0 x7_1).f3), .int .i64 ((rd_T33 l0 x7_1).f4), .string ((rd_T33 l0 x7_1).f5)]] (by rfl) rfl rfl arr_ ?_
                with_reducible refine (impl_FrameOk.calls ((rd_T33 l0 x7_1).f0) ((rd_T33 l0 x7_1).f1) ((rd_T33 l0 x7_1).f2) ((rd_T33 l0 x7_1).f3) ((rd_T33 l0 x7_1).f4) ((rd_T33 l0 x7_1).f5) true _ A5.out).mono ?_
                rintro e w26 ⟨rfl, hb⟩
                refine ⟨_, rfl, ?_⟩
                have n0_ := Aside0.mk (bb_ BK219.out hb)
                have n1_ := Aside0.mk (below_step (hb1_ HB.out GE219.out) hb)
                clear BK219
                clear HB
                have BK219 := n0_
                have HB := n1_
                clear n0_ n1_
                (try clear hb)
                (try clear hb2)
                (try clear hk)
                (try clear hi)
                refine hK.out _ _ ⟨(blk_cell BK219.out 0).trans rfl, (blk_cell BK219.out 1).trans rfl, (blk_cell BK219.out 2).trans rfl, (blk_cell BK219.out 3).trans rfl, (blk_cell BK219.out 4).trans rfl, (blk_cell BK219.out 5).trans rfl⟩ (fun hHeld => ?_)
                clear hK K
                refine norm_ (a' := ?_) ?_ ?_
                rotate_left
                · show Act.put _ (some 13) _ = _
                  simp only [Act.put, List.setIfInBounds_toArray, List.set_cons_zero, List.set_cons_succ, i64_w, i32_w]
                  rfl
                refine pure_ (i := 2) (N := some 14) (v := ?_) (a' := ?_) #[true, true, true, false, false, false, false, false, false, false, false, false, false, false, false, false, false, false] rfl rfl (any_of HT_.out (by kernel_rfl)) (fun _ _ _ h => h) (Or.inl ⟨by rfl, ?_⟩) ?_ ?_
                rotate_left
                · intro w'
                  go_simp
                  with_reducible rfl
                rotate_left
                · simp only [Act.put, List.setIfInBounds_toArray, List.set_cons_zero, List.set_cons_succ, i64_w, i32_w]
                  rfl
                refine pure_ (i := 3) (N := some 15) (v := ?_) (a' := ?_) #[true, true, true, true, false, false, false, false, false, false, false, false, false, false, false, false, false, false] rfl rfl (any_of HT_.out (by kernel_rfl)) (fun _ _ _ h => h) (Or.inl ⟨by rfl, ?_⟩) ?_ ?_
                rotate_left
                · intro w'
                  go_simp
                  with_reducible rfl
                rotate_left
                · simp only [Act.put, List.setIfInBounds_toArray, List.set_cons_zero, List.set_cons_succ, i64_w, i32_w]
                  rfl
                refine pure_ (i := 4) (N := some 16) (v := ?_) (a' := ?_) #[true, true, true, true, true, false, false, false, false, false, false, false, false, false, false, false, false, false] rfl rfl (any_of HT_.out (by kernel_rfl)) (fun _ _ _ h => h) (Or.inl ⟨by rfl, ?_⟩) ?_ ?_
                rotate_left
                · intro w'
                  go_simp
                  with_reducible rfl
                rotate_left
                · simp only [Act.put, List.setIfInBounds_toArray, List.set_cons_zero, List.set_cons_succ, i64_w, i32_w]
                  rfl
                refine pure_ (i := 5) (N := some 17) (v := ?_) (a' := ?_) #[true, true, true, true, true, true, false, false, false, false, false, false, false, false, false, false, false, false] rfl rfl (any_of HT_.out (by kernel_rfl)) (fun _ _ _ h => h) (Or.inl ⟨by rfl, ?_⟩) ?_ ?_
                rotate_left
                · intro w'
                  go_simp
                  with_reducible rfl
                rotate_left
                · simp only [Act.put, List.setIfInBounds_toArray, List.set_cons_zero, List.set_cons_succ, i64_w, i32_w]
                  rfl
                refine pure_ (i := 6) (N := some 18) (v := ?_) (a' := ?_) #[true, true, true, true, true, true, true, false, false, false, false, false, false, false, false, false, false, false] rfl rfl (any_of HT_.out (by kernel_rfl)) (fun _ _ _ h => h) (Or.inl ⟨by rfl, ?_⟩) ?_ ?_
                rotate_left
                · intro w'
                  go_simp
                  with_reducible rfl
                rotate_left
                · simp only [Act.put, List.setIfInBounds_toArray, List.set_cons_zero, List.set_cons_succ, i64_w, i32_w]
                  rfl
                refine pure_ (i := 7) (N := some 19) (v := undef) (a' := ?_) #[true, true, true, true, true, true, true, true, false, false, false, false, false, false, false, false, false, false] rfl rfl (any_of HT_.out (by kernel_rfl)) (fun _ _ _ h => h) (Or.inr ⟨by rfl, rfl⟩) ?_ ?_
                rotate_left
                · simp only [Act.put, List.setIfInBounds_toArray, List.set_cons_zero, List.set_cons_succ, i64_w, i32_w]
                  rfl
                refine pure_ (i := 8) (N := some 20) (v := undef) (a' := ?_) #[true, true, true, true, true, true, true, true, true, false, false, false, false, false, false, false, false, false] rfl rfl (any_of HT_.out (by kernel_rfl)) (fun _ _ _ h => h) (Or.inr ⟨by rfl, rfl⟩) ?_ ?_
                rotate_left
                · simp only [Act.put, List.setIfInBounds_toArray, List.set_cons_zero, List.set_cons_succ, i64_w, i32_w]
                  rfl
                refine pure_ (i := 9) (N := some 21) (v := undef) (a' := ?_) #[true, true, true, true, true, true, true, true, true, true, false, false, false, false, false, false, false, false] rfl rfl (any_of HT_.out (by kernel_rfl)) (fun _ _ _ h => h) (Or.inr ⟨by rfl, rfl⟩) ?_ ?_
                rotate_left
                · simp only [Act.put, List.setIfInBounds_toArray, List.set_cons_zero, List.set_cons_succ, i64_w, i32_w]
                  rfl
                refine pure_ (i := 10) (N := some 22) (v := undef) (a' := ?_) #[true, true, true, true, true, true, true, true, true, true, true, false, false, false, false, false, false, false] rfl rfl (any_of HT_.out (by kernel_rfl)) (fun _ _ _ h => h) (Or.inr ⟨by rfl, rfl⟩) ?_ ?_
                rotate_left
                · simp only [Act.put, List.setIfInBounds_toArray, List.set_cons_zero, List.set_cons_succ, i64_w, i32_w]
                  rfl
                refine pure_ (i := 11) (N := some 23) (v := undef) (a' := ?_) #[true, true, true, true, true, true, true, true, true, true, true, true, false, false, false, false, false, false] rfl rfl (any_of HT_.out (by kernel_rfl)) (fun _ _ _ h => h) (Or.inr ⟨by rfl, rfl⟩) ?_ ?_
                rotate_left
                · simp only [Act.put, List.setIfInBounds_toArray, List.set_cons_zero, List.set_cons_succ, i64_w, i32_w]
                  rfl
                refine pure_ (i := 12) (N := some 24) (v := undef) (a' := ?_) #[true, true, true, true, true, true, true, true, true, true, true, true, true, false, false, false, false, false] rfl rfl (any_of HT_.out (by kernel_rfl)) (fun _ _ _ h => h) (Or.inr ⟨by rfl, rfl⟩) ?_ ?_
                rotate_left
                · simp only [Act.put, List.setIfInBounds_toArray, List.set_cons_zero, List.set_cons_succ, i64_w, i32_w]
                  rfl
                refine pure_ (i := 13) (N := some 25) (v := undef) (a' := ?_) #[true, true, true, true, true, true, true, true, true, true, true, true, true, true, false, false, false, false] rfl rfl (any_of HT_.out (by kernel_rfl)) (fun _ _ _ h => h) (Or.inr ⟨by rfl, rfl⟩) ?_ ?_
                rotate_left
                · simp only [Act.put, List.setIfInBounds_toArray, List.set_cons_zero, List.set_cons_succ, i64_w, i32_w]
                  rfl
                refine pure_ (i := 14) (N := some 26) (v := undef) (a' := ?_) #[true, true, true, true, true, true, true, true, true, true, true, true, true, true, true, false, false, false] rfl rfl (any_of HT_.out (by kernel_rfl)) (fun _ _ _ h => h) (Or.inr ⟨by rfl, rfl⟩) ?_ ?_
                rotate_left
                · simp only [Act.put, List.setIfInBounds_toArray, List.set_cons_zero, List.set_cons_succ, i64_w, i32_w]
                  rfl
                refine pure_ (i := 15) (N := some 27) (v := undef) (a' := ?_) #[true, true, true, true, true, true, true, true, true, true, true, true, true, true, true, true, false, false] rfl rfl (any_of HT_.out (by kernel_rfl)) (fun _ _ _ h => h) (Or.inr ⟨by rfl, rfl⟩) ?_ ?_
                rotate_left
                · simp only [Act.put, List.setIfInBounds_toArray, List.set_cons_zero, List.set_cons_succ, i64_w, i32_w]
                  rfl
                refine pure_ (i := 16) (N := some 28) (v := ?_) (a' := ?_) #[true, true, true, true, true, true, true, true, true, true, true, true, true, true, true, true, true, false] rfl rfl (any_of HT_.out (by kernel_rfl)) (fun _ _ _ h => h) (Or.inl ⟨by rfl, ?_⟩) ?_ ?_
                rotate_left
                · intro w'
                  go_simp
                  with_reducible rfl
                rotate_left
                · simp only [Act.put, List.setIfInBounds_toArray, List.set_cons_zero, List.set_cons_succ, i64_w, i32_w]
                  rfl
                refine pure_ (i := 17) (N := some 29) (v := ?_) (a' := ?_) #[true, true, true, true, true, true, true, true, true, true, true, true, true, true, true, true, true, true] rfl rfl (any_of HT_.out (by kernel_rfl)) (fun _ _ _ h => h) (Or.inl ⟨by rfl, ?_⟩) ?_ ?_
                rotate_left
                · intro w'
                  go_simp
                  with_reducible rfl
                rotate_left
                · simp only [Act.put, List.setIfInBounds_toArray, List.set_cons_zero, List.set_cons_succ, i64_w, i32_w]
                  rfl
                refine done_ (done_of HT_.out (by kernel_rfl)) ?_
                try go_wp2
                go_roundg k1
                case measure => have := HK1.out; omega
                case rel => exact ⟨(wrap64 (x7_1 + 1)), (by first | rfl | (simp; done) | (simp [*]; done)), H', ⟨by have := HK1.out; omega⟩, ⟨hb1_ HB.out GE219.out⟩⟩
            · replace c6 := Bool.eq_false_iff.mpr c6
              subst c6
              have H1 : (some false) = some r := by rw [if_neg (show ¬ (false = true) by decide)] at H; exact H
              clear H
              have H := H1
              clear H1
              obtain rfl := Option.some.inj H
              have p218 : 0 ≤ (x7_1 : Int) := of_decide_eq_true (by first | (with_reducible assumption) | assumption)
              have q218 : x7_1 < (l0.length : Int) := of_decide_eq_true (by first | (with_reducible assumption) | assumption)
              obtain ⟨ad218, e218, hx218_0, hx218_1, hx218_2, hx218_3, hx218_4, hx218_5⟩ := at_T33 HR0.out x7_1 p218 q218
              cases e218
              replace hx218_0 := (HB.out.cell (World.block_lt_of_cell? w _ hx218_0)).trans hx218_0
              replace hx218_1 := (HB.out.cell (World.block_lt_of_cell? w _ hx218_1)).trans hx218_1
              replace hx218_2 := (HB.out.cell (World.block_lt_of_cell? w _ hx218_2)).trans hx218_2
              replace hx218_3 := (HB.out.cell (World.block_lt_of_cell? w _ hx218_3)).trans hx218_3
              replace hx218_4 := (HB.out.cell (World.block_lt_of_cell? w _ hx218_4)).trans hx218_4
              replace hx218_5 := (HB.out.cell (World.block_lt_of_cell? w _ hx218_5)).trans hx218_5
              replace p218 := eq_true p218
              replace q218 := eq_true q218
              try go_wp2_with (first | ((with_reducible refine gate_dst (N := 4) rfl ?_); refine box_event ?hg (N := 4) ?hd (cs := #[.int .i64 0, .int .i64 0, .int .i64 0, .int .i64 0, .int .i64 0, .string (⟨#[]⟩ : ByteArray)]) (t := 33) ?hr ?_; (case hd => rfl); (case hg => rfl); (case hr => first | (go_simp; done) | (go_simp; rfl)); intro gb219 hg w27 hbox hb; have n0_ := Aside0.mk (below_step (hb_ HB.out) hb); have n1_ := Aside0.mk (hbox); have n2_ := Aside0.mk ((by rw [hg]; exact (below_size (hb_ HB.out)) : w.heap.size ≤ gb219)); have n3_ := Aside0.mk ((by rw [hg]; exact (below_size (hb_ HB.out)) : w.heap.size ≤ gb219)); clear HB; have HB := n0_; have BK219 := n1_; have GW219 := n2_; have GE219 := n3_; clear n0_ n1_ n2_ n3_; clear hb hbox hg; have hcz28_0 := bc_ BK219.out 0 (.int .i64 0) rfl; have hcz28_1 := bc_ BK219.out 1 (.int .i64 0) rfl; have hcz28_2 := bc_ BK219.out 2 (.int .i64 0) rfl; have hcz28_3 := bc_ BK219.out 3 (.int .i64 0) rfl; have hcz28_4 := bc_ BK219.out 4 (.int .i64 0) rfl; have hcz28_5 : w27.cell? ⟨gb219, 5, none⟩ = some (.string (⟨#[]⟩ : ByteArray)) := (blk_cell BK219.out 5).trans rfl; have hfz28_0 := blk_frozen BK219.out 0; have hfz28_1 := blk_frozen BK219.out 1; have hfz28_2 := blk_frozen BK219.out 2; have hfz28_3 := blk_frozen BK219.out 3; have hfz28_4 := blk_frozen BK219.out 4; have hfz28_5 := blk_frozen BK219.out 5))
              have n0_ : Aside0 (((((((w27.setCell ⟨gb219, 0, none⟩ (.int .i64 ((rd_T33 l0 x7_1).f0))).setCell ⟨gb219, 1, none⟩ (.int .i64 ((rd_T33 l0 x7_1).f1))).setCell ⟨gb219, 2, none⟩ (.int .i64 ((rd_T33 l0 x7_1).f2))).setCell ⟨gb219, 3, none⟩ (.int .i64 ((rd_T33 l0 x7_1).f3))).setCell ⟨gb219, 4, none⟩ (.int .i64 ((rd_T33 l0 x7_1).f4))).setCell ⟨gb219, 5, none⟩ (.string ((rd_T33 l0 x7_1).f5))).heap[gb219]? = some (.cells #[.int .i64 ((rd_T33 l0 x7_1).f0), .int .i64 ((rd_T33 l0 x7_1).f1), .int .i64 ((rd_T33 l0 x7_1).f2), .int .i64 ((rd_T33 l0 x7_1).f3), .int .i64 ((rd_T33 l0 x7_1).f4), .string ((rd_T33 l0 x7_1).f5)] 33 (0, 0))) := ⟨by (with_reducible repeat (first | refine blk_drewN ?_ _ | refine blk_drew ?_ | refine blk_alloc ?_ _)); refine blk_put (cs := #[.int .i64 ((rd_T33 l0 x7_1).f0), .int .i64 ((rd_T33 l0 x7_1).f1), .int .i64 ((rd_T33 l0 x7_1).f2), .int .i64 ((rd_T33 l0 x7_1).f3), .int .i64 ((rd_T33 l0 x7_1).f4), .string (⟨#[]⟩ : ByteArray)]) ?_ 5 _ rfl; (with_reducible repeat (first | refine blk_drewN ?_ _ | refine blk_drew ?_ | refine blk_alloc ?_ _)); refine blk_put (cs := #[.int .i64 ((rd_T33 l0 x7_1).f0), .int .i64 ((rd_T33 l0 x7_1).f1), .int .i64 ((rd_T33 l0 x7_1).f2), .int .i64 ((rd_T33 l0 x7_1).f3), .int .i64 0, .string (⟨#[]⟩ : ByteArray)]) ?_ 4 _ rfl; (with_reducible repeat (first | refine blk_drewN ?_ _ | refine blk_drew ?_ | refine blk_alloc ?_ _)); refine blk_put (cs := #[.int .i64 ((rd_T33 l0 x7_1).f0), .int .i64 ((rd_T33 l0 x7_1).f1), .int .i64 ((rd_T33 l0 x7_1).f2), .int .i64 0, .int .i64 0, .string (⟨#[]⟩ : ByteArray)]) ?_ 3 _ rfl; (with_reducible repeat (first | refine blk_drewN ?_ _ | refine blk_drew ?_ | refine blk_alloc ?_ _)); refine blk_put (cs := #[.int .i64 ((rd_T33 l0 x7_1).f0), .int .i64 ((rd_T33 l0 x7_1).f1), .int .i64 0, .int .i64 0, .int .i64 0, .string (⟨#[]⟩ : ByteArray)]) ?_ 2 _ rfl; (with_reducible repeat (first | refine blk_drewN ?_ _ | refine blk_drew ?_ | refine blk_alloc ?_ _)); refine blk_put (cs := #[.int .i64 ((rd_T33 l0 x7_1).f0), .int .i64 0, .int .i64 0, .int .i64 0, .int .i64 0, .string (⟨#[]⟩ : ByteArray)]) ?_ 1 _ rfl; (with_reducible repeat (first | refine blk_drewN ?_ _ | refine blk_drew ?_ | refine blk_alloc ?_ _)); refine blk_put (cs := #[.int .i64 0, .int .i64 0, .int .i64 0, .int .i64 0, .int .i64 0, .string (⟨#[]⟩ : ByteArray)]) ?_ 0 _ rfl; (with_reducible repeat (first | refine blk_drewN ?_ _ | refine blk_drew ?_ | refine blk_alloc ?_ _)); exact BK219.out⟩
              have n1_ : Aside0 (Below w.heap.size w ((((((w27.setCell ⟨gb219, 0, none⟩ (.int .i64 ((rd_T33 l0 x7_1).f0))).setCell ⟨gb219, 1, none⟩ (.int .i64 ((rd_T33 l0 x7_1).f1))).setCell ⟨gb219, 2, none⟩ (.int .i64 ((rd_T33 l0 x7_1).f2))).setCell ⟨gb219, 3, none⟩ (.int .i64 ((rd_T33 l0 x7_1).f3))).setCell ⟨gb219, 4, none⟩ (.int .i64 ((rd_T33 l0 x7_1).f4))).setCell ⟨gb219, 5, none⟩ (.string ((rd_T33 l0 x7_1).f5)))) := ⟨hb1_ HB.out GE219.out⟩
              (try clear BK219)
              (try clear HB)
              generalize ((((((w27.setCell ⟨gb219, 0, none⟩ (.int .i64 ((rd_T33 l0 x7_1).f0))).setCell ⟨gb219, 1, none⟩ (.int .i64 ((rd_T33 l0 x7_1).f1))).setCell ⟨gb219, 2, none⟩ (.int .i64 ((rd_T33 l0 x7_1).f2))).setCell ⟨gb219, 3, none⟩ (.int .i64 ((rd_T33 l0 x7_1).f3))).setCell ⟨gb219, 4, none⟩ (.int .i64 ((rd_T33 l0 x7_1).f4))).setCell ⟨gb219, 5, none⟩ (.string ((rd_T33 l0 x7_1).f5))) = w29 at n0_ n1_ ⊢
              have BK219 := n0_
              have HB := n1_
              clear n0_ n1_
              have n0_ := Aside0.mk (blk_drew BK219.out)
              have n1_ := Aside0.mk (below_drew1 HB.out)
              clear BK219
              clear HB
              have BK219 := n0_
              have HB := n1_
              clear n0_ n1_
              refine start_ (n := 18) (S := fun w' => w'.cell? ⟨gb219, 0, none⟩ = some (.int .i64 ((rd_T33 l0 x7_1).f0)) ∧ w'.cell? ⟨gb219, 1, none⟩ = some (.int .i64 ((rd_T33 l0 x7_1).f1)) ∧ w'.cell? ⟨gb219, 2, none⟩ = some (.int .i64 ((rd_T33 l0 x7_1).f2)) ∧ w'.cell? ⟨gb219, 3, none⟩ = some (.int .i64 ((rd_T33 l0 x7_1).f3)) ∧ w'.cell? ⟨gb219, 4, none⟩ = some (.int .i64 ((rd_T33 l0 x7_1).f4)) ∧ w'.cell? ⟨gb219, 5, none⟩ = some (.string ((rd_T33 l0 x7_1).f5))) (ds := []) #[false, false, false, false, false, false, false, false, false, false, false, false, false, false, false, false, false, false] (by kernel_rfl) rfl rfl ⟨(blk_cell BK219.out 0).trans rfl, (blk_cell BK219.out 1).trans rfl, (blk_cell BK219.out 2).trans rfl, (blk_cell BK219.out 3).trans rfl, (blk_cell BK219.out 4).trans rfl, (blk_cell BK219.out 5).trans rfl⟩ (fun hHeld => ?_); refine with_tabW impl_BusOk.tab4 impl_BusOk.bits4 (fun HT_ HW_ => ?_)
              generalize w29.drew = w30 at BK219 HB hHeld ⊢
              refine take_ (i := 0) (N := some 12) (v := ?_) (a' := ?_) #[true, false, false, false, false, false, false, false, false, false, false, false, false, false, false, false, false, false] rfl rfl (take_ofW HT_.out HW_.out (by kernel_rfl)) (fun _ _ _ h => h) (Or.inl ⟨by rfl, ?_⟩) hHeld ?_ ?_
              rotate_left
              · rintro w' ⟨s0, s1, s2, s3, s4, s5⟩
                go_simp
                with_reducible rfl
              rotate_left
              · simp only [Act.put, List.setIfInBounds_toArray, List.set_cons_zero, List.set_cons_succ, i64_w, i32_w]
                rfl
              refine one_ (i := 1) (N := some 13) #[true, true, false, false, false, false, false, false, false, false, false, false, false, false, false, false, false, false] rfl rfl (one_of HT_.out (by kernel_rfl)) (by decide) (fun K hK => ?_)
              refine goes_ Try.func56 (by kernel_rfl) rfl #[.agg #[.int .i64 ((rd_T33 l0 x7_1).f0), .int .i64 ((rd_T33 l0 x7_1).f1), .int .i64 ((rd_T33 l0 x7_1).f2), .int .i64 ((rd_T33 l0 x7_1).f3), .int .i64 ((rd_T33 l0 x7_1).f4), .string ((rd_T33 l0 x7_1).f5)]] (by rfl) rfl rfl arr_ ?_
              with_reducible refine (impl_FrameOk.calls ((rd_T33 l0 x7_1).f0) ((rd_T33 l0 x7_1).f1) ((rd_T33 l0 x7_1).f2) ((rd_T33 l0 x7_1).f3) ((rd_T33 l0 x7_1).f4) ((rd_T33 l0 x7_1).f5) false _ A5.out).mono ?_
              rintro e w31 ⟨rfl, hb⟩
              refine ⟨_, rfl, ?_⟩
              have n0_ := Aside0.mk (bb_ BK219.out hb)
              have n1_ := Aside0.mk (below_step (hb1_ HB.out GE219.out) hb)
              clear BK219
              clear HB
              have BK219 := n0_
              have HB := n1_
              clear n0_ n1_
              (try clear hb)
              (try clear hb2)
              (try clear hk)
              (try clear hi)
              refine hK.out _ _ ⟨(blk_cell BK219.out 0).trans rfl, (blk_cell BK219.out 1).trans rfl, (blk_cell BK219.out 2).trans rfl, (blk_cell BK219.out 3).trans rfl, (blk_cell BK219.out 4).trans rfl, (blk_cell BK219.out 5).trans rfl⟩ (fun hHeld => ?_)
              clear hK K
              refine norm_ (a' := ?_) ?_ ?_
              rotate_left
              · show Act.put _ (some 13) _ = _
                simp only [Act.put, List.setIfInBounds_toArray, List.set_cons_zero, List.set_cons_succ, i64_w, i32_w]
                rfl
              refine pure_ (i := 2) (N := some 14) (v := ?_) (a' := ?_) #[true, true, true, false, false, false, false, false, false, false, false, false, false, false, false, false, false, false] rfl rfl (any_of HT_.out (by kernel_rfl)) (fun _ _ _ h => h) (Or.inl ⟨by rfl, ?_⟩) ?_ ?_
              rotate_left
              · intro w'
                go_simp
                with_reducible rfl
              rotate_left
              · simp only [Act.put, List.setIfInBounds_toArray, List.set_cons_zero, List.set_cons_succ, i64_w, i32_w]
                rfl
              refine pure_ (i := 3) (N := some 15) (v := ?_) (a' := ?_) #[true, true, true, true, false, false, false, false, false, false, false, false, false, false, false, false, false, false] rfl rfl (any_of HT_.out (by kernel_rfl)) (fun _ _ _ h => h) (Or.inl ⟨by rfl, ?_⟩) ?_ ?_
              rotate_left
              · intro w'
                go_simp
                with_reducible rfl
              rotate_left
              · simp only [Act.put, List.setIfInBounds_toArray, List.set_cons_zero, List.set_cons_succ, i64_w, i32_w]
                rfl
              refine pure_ (i := 4) (N := some 16) (v := undef) (a' := ?_) #[true, true, true, true, true, false, false, false, false, false, false, false, false, false, false, false, false, false] rfl rfl (any_of HT_.out (by kernel_rfl)) (fun _ _ _ h => h) (Or.inr ⟨by rfl, rfl⟩) ?_ ?_
              rotate_left
              · simp only [Act.put, List.setIfInBounds_toArray, List.set_cons_zero, List.set_cons_succ, i64_w, i32_w]
                rfl
              refine pure_ (i := 5) (N := some 17) (v := undef) (a' := ?_) #[true, true, true, true, true, true, false, false, false, false, false, false, false, false, false, false, false, false] rfl rfl (any_of HT_.out (by kernel_rfl)) (fun _ _ _ h => h) (Or.inr ⟨by rfl, rfl⟩) ?_ ?_
              rotate_left
              · simp only [Act.put, List.setIfInBounds_toArray, List.set_cons_zero, List.set_cons_succ, i64_w, i32_w]
                rfl
              refine pure_ (i := 6) (N := some 18) (v := undef) (a' := ?_) #[true, true, true, true, true, true, true, false, false, false, false, false, false, false, false, false, false, false] rfl rfl (any_of HT_.out (by kernel_rfl)) (fun _ _ _ h => h) (Or.inr ⟨by rfl, rfl⟩) ?_ ?_
              rotate_left
              · simp only [Act.put, List.setIfInBounds_toArray, List.set_cons_zero, List.set_cons_succ, i64_w, i32_w]
                rfl
              refine pure_ (i := 7) (N := some 19) (v := undef) (a' := ?_) #[true, true, true, true, true, true, true, true, false, false, false, false, false, false, false, false, false, false] rfl rfl (any_of HT_.out (by kernel_rfl)) (fun _ _ _ h => h) (Or.inr ⟨by rfl, rfl⟩) ?_ ?_
              rotate_left
              · simp only [Act.put, List.setIfInBounds_toArray, List.set_cons_zero, List.set_cons_succ, i64_w, i32_w]
                rfl
              refine pure_ (i := 8) (N := some 20) (v := undef) (a' := ?_) #[true, true, true, true, true, true, true, true, true, false, false, false, false, false, false, false, false, false] rfl rfl (any_of HT_.out (by kernel_rfl)) (fun _ _ _ h => h) (Or.inr ⟨by rfl, rfl⟩) ?_ ?_
              rotate_left
              · simp only [Act.put, List.setIfInBounds_toArray, List.set_cons_zero, List.set_cons_succ, i64_w, i32_w]
                rfl
              refine pure_ (i := 9) (N := some 21) (v := undef) (a' := ?_) #[true, true, true, true, true, true, true, true, true, true, false, false, false, false, false, false, false, false] rfl rfl (any_of HT_.out (by kernel_rfl)) (fun _ _ _ h => h) (Or.inr ⟨by rfl, rfl⟩) ?_ ?_
              rotate_left
              · simp only [Act.put, List.setIfInBounds_toArray, List.set_cons_zero, List.set_cons_succ, i64_w, i32_w]
                rfl
              refine pure_ (i := 10) (N := some 22) (v := undef) (a' := ?_) #[true, true, true, true, true, true, true, true, true, true, true, false, false, false, false, false, false, false] rfl rfl (any_of HT_.out (by kernel_rfl)) (fun _ _ _ h => h) (Or.inr ⟨by rfl, rfl⟩) ?_ ?_
              rotate_left
              · simp only [Act.put, List.setIfInBounds_toArray, List.set_cons_zero, List.set_cons_succ, i64_w, i32_w]
                rfl
              refine pure_ (i := 11) (N := some 23) (v := undef) (a' := ?_) #[true, true, true, true, true, true, true, true, true, true, true, true, false, false, false, false, false, false] rfl rfl (any_of HT_.out (by kernel_rfl)) (fun _ _ _ h => h) (Or.inr ⟨by rfl, rfl⟩) ?_ ?_
              rotate_left
              · simp only [Act.put, List.setIfInBounds_toArray, List.set_cons_zero, List.set_cons_succ, i64_w, i32_w]
                rfl
              refine pure_ (i := 12) (N := some 24) (v := undef) (a' := ?_) #[true, true, true, true, true, true, true, true, true, true, true, true, true, false, false, false, false, false] rfl rfl (any_of HT_.out (by kernel_rfl)) (fun _ _ _ h => h) (Or.inr ⟨by rfl, rfl⟩) ?_ ?_
              rotate_left
              · simp only [Act.put, List.setIfInBounds_toArray, List.set_cons_zero, List.set_cons_succ, i64_w, i32_w]
                rfl
              refine pure_ (i := 13) (N := some 25) (v := undef) (a' := ?_) #[true, true, true, true, true, true, true, true, true, true, true, true, true, true, false, false, false, false] rfl rfl (any_of HT_.out (by kernel_rfl)) (fun _ _ _ h => h) (Or.inr ⟨by rfl, rfl⟩) ?_ ?_
              rotate_left
              · simp only [Act.put, List.setIfInBounds_toArray, List.set_cons_zero, List.set_cons_succ, i64_w, i32_w]
                rfl
              refine pure_ (i := 14) (N := some 26) (v := undef) (a' := ?_) #[true, true, true, true, true, true, true, true, true, true, true, true, true, true, true, false, false, false] rfl rfl (any_of HT_.out (by kernel_rfl)) (fun _ _ _ h => h) (Or.inr ⟨by rfl, rfl⟩) ?_ ?_
              rotate_left
              · simp only [Act.put, List.setIfInBounds_toArray, List.set_cons_zero, List.set_cons_succ, i64_w, i32_w]
                rfl
              refine pure_ (i := 15) (N := some 27) (v := undef) (a' := ?_) #[true, true, true, true, true, true, true, true, true, true, true, true, true, true, true, true, false, false] rfl rfl (any_of HT_.out (by kernel_rfl)) (fun _ _ _ h => h) (Or.inr ⟨by rfl, rfl⟩) ?_ ?_
              rotate_left
              · simp only [Act.put, List.setIfInBounds_toArray, List.set_cons_zero, List.set_cons_succ, i64_w, i32_w]
                rfl
              refine pure_ (i := 16) (N := some 28) (v := undef) (a' := ?_) #[true, true, true, true, true, true, true, true, true, true, true, true, true, true, true, true, true, false] rfl rfl (any_of HT_.out (by kernel_rfl)) (fun _ _ _ h => h) (Or.inr ⟨by rfl, rfl⟩) ?_ ?_
              rotate_left
              · simp only [Act.put, List.setIfInBounds_toArray, List.set_cons_zero, List.set_cons_succ, i64_w, i32_w]
                rfl
              refine pure_ (i := 17) (N := some 29) (v := ?_) (a' := ?_) #[true, true, true, true, true, true, true, true, true, true, true, true, true, true, true, true, true, true] rfl rfl (any_of HT_.out (by kernel_rfl)) (fun _ _ _ h => h) (Or.inl ⟨by rfl, ?_⟩) ?_ ?_
              rotate_left
              · intro w'
                go_simp
                with_reducible rfl
              rotate_left
              · simp only [Act.put, List.setIfInBounds_toArray, List.set_cons_zero, List.set_cons_succ, i64_w, i32_w]
                rfl
              refine done_ (done_of HT_.out (by kernel_rfl)) ?_
              try go_wp2
              go_ret
              exact ⟨er_, hb1_ HB.out GE219.out⟩
          · rw [if_neg c4] at H
            exact absurd H (by simp)
        · rw [if_neg c3] at H
          exact absurd H (by simp)
      · rw [if_neg c2] at H
        have c2b0 : decide (x7_1 < (l0.length : Int)) = false := decide_eq_false c2
        clear c2
        obtain rfl := Option.some.inj H
        go_wp2
        go_ret
        exact ⟨er_, hb_ HB.out⟩
def impl_places_Frame.l0 (p : S33 → Option Bool) : Nat → List Int → List (S33) → Int → Int → Option (List Int)
  | 0, _, _, _, _ => none
  | k + 1, x5, x9, x10, x11 => if x11 < x10 then (if 0 ≤ x11 then (if x11 < (x9.length : Int) then ((p (rd_T33 x9 x11)).bind fun t227 => (if t227 = true then (if x5.length < 17592186044416 then (impl_places_Frame.l0 p k (x5 ++ [x11]) x9 x10 (wrap64 (x11 + 1))) else (none)) else (impl_places_Frame.l0 p k x5 x9 x10 (wrap64 (x11 + 1))))) else (none)) else (none)) else (some x5)
def impl_places_Frame.f (p : S33 → Option Bool) (k : Nat) (l0 : List (S33)) : Option (List Int) := impl_places_Frame.l0 p k (([] : List Int)) l0 (l0.length : Int) 0
set_option maxHeartbeats 8000000 in
set_option maxRecDepth 100000 in
theorem impl_places_Frame.calls (k : Nat) (p : S33 → Option Bool) (g : Nat) (caps : Array Value) (fn : Func) (hfn : Try.prog.funcs[g]? = some fn) (hbd : fn.body.isSome = true) (hnm : (fn.name == "runtime.NumGoroutine") = false)
    (A0 : Option Addr) (c0 : Nat) (l0 : List (S33)) (r : List Int) (w : World) (hC : ∀ (x : S33) (b : Bool) (W : World), Below w.heap.size w W → p x = some b → Calls Try.prog g (#[.agg #[.int .i64 x.f0, .int .i64 x.f1, .int .i64 x.f2, .int .i64 x.f3, .int .i64 x.f4, .string x.f5]] ++ caps) W fun e W' => e = .returned (.bool b) ∧ Below W.heap.size W W') (hr0 : Kd.C k33 w A0 l0.length l0) (hc0 : l0.length ≤ c0) (h : impl_places_Frame.f p k l0 = some r) :
    Calls Try.prog 50 #[.slice A0 l0.length c0, .func (.func g) #[] caps] w fun e w' => ∃ v0_ : Value, e = .returned (v0_) ∧ Kd.R (Kd.int .i64) 3 w' w.heap.size (fun _ => True) v0_ r ∧ Below w.heap.size w w' := by
  have hu33 := Try.underlying33
  have HR0 := Aside0.mk hr0
  have HC0 := Aside0.mk hc0
  clear hr0 hc0
  have HB := Aside0.mk (Below.refl w.heap.size w)
  have hen := fun (args : Array Value) W => enters_ hfn hnm hbd args W
  have hC := Aside0.mk hC
  have H : (impl_places_Frame.l0 p k (([] : List Int)) l0 (l0.length : Int) 0) = some r := h
  clear h
  obtain ⟨y222, hy222⟩ : ∃ y_ : List Int, y_ = (([] : List Int)) := ⟨_, rfl⟩
  replace H : (impl_places_Frame.l0 p k y222 l0 (l0.length : Int) 0) = some r := by first | (rw [hy222]; with_reducible exact H) | (have H2_ := (Option.bind_some _ _).symm.trans H; rw [hy222]; with_reducible exact H2_) | (have H2_ := (Option.bind_some _ _).symm.trans H; with_reducible exact H2_) | with_reducible exact H | (rw [hy222]; exact H) | exact H
  have Ny222 := Aside0.mk hy222
  clear hy222
  have H' := Aside0.mk H
  clear H
  go_enter Try.func50, Try.ntmps50
  go_wp2_with (first | ((with_reducible refine gate_dst (N := 8) rfl ?_); refine Kd.R_lit (Kd.int .i64) _ 3 ?hg (N := 8) ?hd (xs := ([] : List Int)) (inner := []) (ok := fun _ => True) (okp := fun _ => True) ?hr ?hp (fun _ hk => hk) trivial (Below.refl _ _) (Nat.le_refl _) (by simp) ?_; (case hd => rfl); (case hg => rfl); (case hr => first | (go_simp; done) | (go_simp; rfl)); (case hp => exact (Reps.none _ _)); intro v223 w2 ho3 hb hg_ hnew_; clear hg_ hnew_; (first | rw [← Ny222.out] at ho3 | (simp only [Int.reduceToNat] at ho3; rw [← Ny222.out] at ho3)); have n0_ := Aside0.mk (Kd.R_lower ho3 (below_size (hb_ HB.out))); have n1_ := Aside0.mk (below_step (hb_ HB.out) hb); clear HB; have HO224 := n0_; have HB := n1_; clear n0_ n1_; clear hb ho3))
  go_loopg [5, 11] k (fun kq v5 v11 w' => ∃ (x5_1 : List Int) (x11_1 : Int), v11 = .int .i64 x11_1 ∧ Aside0 (impl_places_Frame.l0 p kq x5_1 l0 (l0.length : Int) x11_1 = some r) ∧ Aside0 (kq ≤ k) ∧ Aside0 (Kd.R (Kd.int .i64) 3 w' w.heap.size (fun _ => True) v5 x5_1) ∧ Aside0 (Below w.heap.size w w'))
  case atStart => exact ⟨(y222), (0), (by first | rfl | (simp; done) | (simp [*]; done)), H', ⟨Nat.le_refl _⟩, ⟨by (with_reducible repeat (first | apply Kd.R_alloc | apply Kd.R_drewN | apply Kd.R_drew)); exact HO224.out⟩, ⟨hb_ HB.out⟩⟩
  case round =>
    clear H'
    try clear p2
    obtain ⟨x5_1, x11_1, rfl, HA, HK1, HO_5, HB⟩ := hrel
    cases gk with
    | zero => exact absurd HA.out (by simp [impl_places_Frame.l0])
    | succ k1 =>
      have H := HA.out
      clear HA
      simp only [impl_places_Frame.l0] at H
      by_cases c4 : x11_1 < (l0.length : Int)
      · rw [if_pos c4] at H
        have c4b0 : decide (x11_1 < (l0.length : Int)) = true := decide_eq_true c4
        clear c4
        by_cases c5 : 0 ≤ x11_1
        · rw [if_pos c5] at H
          have c5b0 : decide (0 ≤ x11_1) = true := decide_eq_true c5
          clear c5
          by_cases c6 : x11_1 < (l0.length : Int)
          · rw [if_pos c6] at H
            have c6b0 : decide (x11_1 < (l0.length : Int)) = true := decide_eq_true c6
            clear c6
            replace H := Option.bind_eq_some_iff.mp H
            obtain ⟨t227, A70, H⟩ := H
            replace H : (if t227 = true then (if x5_1.length < 17592186044416 then (impl_places_Frame.l0 p k1 (x5_1 ++ [x11_1]) l0 (l0.length : Int) (wrap64 (x11_1 + 1))) else (none)) else (impl_places_Frame.l0 p k1 x5_1 l0 (l0.length : Int) (wrap64 (x11_1 + 1)))) = some r := H
            have A7 := Aside0.mk A70
            clear A70
            by_cases c8 : t227 = true
            · subst c8
              have H1 : (if x5_1.length < 17592186044416 then (impl_places_Frame.l0 p k1 (x5_1 ++ [x11_1]) l0 (l0.length : Int) (wrap64 (x11_1 + 1))) else (none)) = some r := by rw [if_pos rfl] at H; exact H
              clear H
              have H := H1
              clear H1
              by_cases c9 : x5_1.length < 17592186044416
              · rw [if_pos c9] at H
                have LMc9 := Aside0.mk c9
                clear c9
                obtain ⟨y228, hy228⟩ : ∃ y_ : List Int, y_ = (x5_1 ++ [x11_1]) := ⟨_, rfl⟩
                replace H : (impl_places_Frame.l0 p k1 y228 l0 (l0.length : Int) (wrap64 (x11_1 + 1))) = some r := by first | (rw [hy228]; with_reducible exact H) | (have H2_ := (Option.bind_some _ _).symm.trans H; rw [hy228]; with_reducible exact H2_) | (have H2_ := (Option.bind_some _ _).symm.trans H; with_reducible exact H2_) | with_reducible exact H | (rw [hy228]; exact H) | exact H
                have Ny228 := Aside0.mk hy228
                clear hy228
                have H' := Aside0.mk H
                clear H
                have p225 : 0 ≤ (x11_1 : Int) := of_decide_eq_true (by first | (with_reducible assumption) | assumption)
                have q225 : x11_1 < (l0.length : Int) := of_decide_eq_true (by first | (with_reducible assumption) | assumption)
                obtain ⟨ad225, e225, hx225_0, hx225_1, hx225_2, hx225_3, hx225_4, hx225_5⟩ := at_T33 HR0.out x11_1 p225 q225
                cases e225
                replace hx225_0 := (HB.out.cell (World.block_lt_of_cell? w _ hx225_0)).trans hx225_0
                replace hx225_1 := (HB.out.cell (World.block_lt_of_cell? w _ hx225_1)).trans hx225_1
                replace hx225_2 := (HB.out.cell (World.block_lt_of_cell? w _ hx225_2)).trans hx225_2
                replace hx225_3 := (HB.out.cell (World.block_lt_of_cell? w _ hx225_3)).trans hx225_3
                replace hx225_4 := (HB.out.cell (World.block_lt_of_cell? w _ hx225_4)).trans hx225_4
                replace hx225_5 := (HB.out.cell (World.block_lt_of_cell? w _ hx225_5)).trans hx225_5
                replace p225 := eq_true p225
                replace q225 := eq_true q225
                go_wp2_with (first | ((with_reducible refine gate_dst (N := 7) rfl ?_); refine box_event ?hg (N := 7) ?hd (cs := #[.int .i64 0, .int .i64 0, .int .i64 0, .int .i64 0, .int .i64 0, .string (⟨#[]⟩ : ByteArray)]) (t := 33) ?hr ?_; (case hd => rfl); (case hg => rfl); (case hr => first | (go_simp; done) | (go_simp; rfl)); intro gb226 hg w10 hbox hb; have n0_ := Aside0.mk (Kd.R_below (by (with_reducible repeat (first | apply Kd.R_alloc | apply Kd.R_drewN | apply Kd.R_drew)); exact HO_5.out) hb); have n1_ := Aside0.mk (below_step (hb_ HB.out) hb); have n2_ := Aside0.mk (hbox); have n3_ := Aside0.mk ((by rw [hg]; exact (below_size (hb_ HB.out)) : w.heap.size ≤ gb226)); have n4_ := Aside0.mk ((by rw [hg]; exact (below_size (hb_ HB.out)) : w.heap.size ≤ gb226)); clear HO_5; clear HB; have HO_5 := n0_; have HB := n1_; have BK226 := n2_; have GW226 := n3_; have GE226 := n4_; clear n0_ n1_ n2_ n3_ n4_; clear hb hbox hg; have hcz11_0 := bc_ BK226.out 0 (.int .i64 0) rfl; have hcz11_1 := bc_ BK226.out 1 (.int .i64 0) rfl; have hcz11_2 := bc_ BK226.out 2 (.int .i64 0) rfl; have hcz11_3 := bc_ BK226.out 3 (.int .i64 0) rfl; have hcz11_4 := bc_ BK226.out 4 (.int .i64 0) rfl; have hcz11_5 : w10.cell? ⟨gb226, 5, none⟩ = some (.string (⟨#[]⟩ : ByteArray)) := (blk_cell BK226.out 5).trans rfl; have hfz11_0 := blk_frozen BK226.out 0; have hfz11_1 := blk_frozen BK226.out 1; have hfz11_2 := blk_frozen BK226.out 2; have hfz11_3 := blk_frozen BK226.out 3; have hfz11_4 := blk_frozen BK226.out 4; have hfz11_5 := blk_frozen BK226.out 5) | ((with_reducible refine (hC.out (rd_T33 l0 x11_1) true _ ?_ A7.out).mono ?_); (exact (hb1_ HB.out GE226.out)); rintro e w12 ⟨rfl, hb⟩; have n0_ := Aside0.mk (Kd.R_below (by (with_reducible repeat (first | apply Kd.R_alloc | apply Kd.R_drewN | apply Kd.R_drew)); exact (Kd.R_mono (Kd.R_far (p := ⟨gb226, 5, none⟩) (Kd.R_far (p := ⟨gb226, 4, none⟩) (Kd.R_far (p := ⟨gb226, 3, none⟩) (Kd.R_far (p := ⟨gb226, 2, none⟩) (Kd.R_far (p := ⟨gb226, 1, none⟩) (Kd.R_far (p := ⟨gb226, 0, none⟩) (Kd.R_types HO_5.out BK226.out (by decide)) (fun _ hk => hk.2) (.int .i64 ((rd_T33 l0 x11_1).f0))) (fun _ hk => hk.2) (.int .i64 ((rd_T33 l0 x11_1).f1))) (fun _ hk => hk.2) (.int .i64 ((rd_T33 l0 x11_1).f2))) (fun _ hk => hk.2) (.int .i64 ((rd_T33 l0 x11_1).f3))) (fun _ hk => hk.2) (.int .i64 ((rd_T33 l0 x11_1).f4))) (fun _ hk => hk.2) (.string ((rd_T33 l0 x11_1).f5))) (fun _ h_ => h_.1))) hb); have n1_ := Aside0.mk (blk_below (g := gb226) (o := .cells #[.int .i64 ((rd_T33 l0 x11_1).f0), .int .i64 ((rd_T33 l0 x11_1).f1), .int .i64 ((rd_T33 l0 x11_1).f2), .int .i64 ((rd_T33 l0 x11_1).f3), .int .i64 ((rd_T33 l0 x11_1).f4), .string ((rd_T33 l0 x11_1).f5)] 33 (0, 0)) (by (with_reducible repeat (first | refine blk_drewN ?_ _ | refine blk_drew ?_ | refine blk_alloc ?_ _)); refine blk_put (cs := #[.int .i64 ((rd_T33 l0 x11_1).f0), .int .i64 ((rd_T33 l0 x11_1).f1), .int .i64 ((rd_T33 l0 x11_1).f2), .int .i64 ((rd_T33 l0 x11_1).f3), .int .i64 ((rd_T33 l0 x11_1).f4), .string (⟨#[]⟩ : ByteArray)]) ?_ 5 _ rfl; (with_reducible repeat (first | refine blk_drewN ?_ _ | refine blk_drew ?_ | refine blk_alloc ?_ _)); refine blk_put (cs := #[.int .i64 ((rd_T33 l0 x11_1).f0), .int .i64 ((rd_T33 l0 x11_1).f1), .int .i64 ((rd_T33 l0 x11_1).f2), .int .i64 ((rd_T33 l0 x11_1).f3), .int .i64 0, .string (⟨#[]⟩ : ByteArray)]) ?_ 4 _ rfl; (with_reducible repeat (first | refine blk_drewN ?_ _ | refine blk_drew ?_ | refine blk_alloc ?_ _)); refine blk_put (cs := #[.int .i64 ((rd_T33 l0 x11_1).f0), .int .i64 ((rd_T33 l0 x11_1).f1), .int .i64 ((rd_T33 l0 x11_1).f2), .int .i64 0, .int .i64 0, .string (⟨#[]⟩ : ByteArray)]) ?_ 3 _ rfl; (with_reducible repeat (first | refine blk_drewN ?_ _ | refine blk_drew ?_ | refine blk_alloc ?_ _)); refine blk_put (cs := #[.int .i64 ((rd_T33 l0 x11_1).f0), .int .i64 ((rd_T33 l0 x11_1).f1), .int .i64 0, .int .i64 0, .int .i64 0, .string (⟨#[]⟩ : ByteArray)]) ?_ 2 _ rfl; (with_reducible repeat (first | refine blk_drewN ?_ _ | refine blk_drew ?_ | refine blk_alloc ?_ _)); refine blk_put (cs := #[.int .i64 ((rd_T33 l0 x11_1).f0), .int .i64 0, .int .i64 0, .int .i64 0, .int .i64 0, .string (⟨#[]⟩ : ByteArray)]) ?_ 1 _ rfl; (with_reducible repeat (first | refine blk_drewN ?_ _ | refine blk_drew ?_ | refine blk_alloc ?_ _)); refine blk_put (cs := #[.int .i64 0, .int .i64 0, .int .i64 0, .int .i64 0, .int .i64 0, .string (⟨#[]⟩ : ByteArray)]) ?_ 0 _ rfl; (with_reducible repeat (first | refine blk_drewN ?_ _ | refine blk_drew ?_ | refine blk_alloc ?_ _)); exact BK226.out) hb); have n2_ := Aside0.mk (below_step (hb1_ HB.out GE226.out) hb); clear HO_5; clear BK226; clear HB; have HO_5 := n0_; have BK226 := n1_; have HB := n2_; clear n0_ n1_ n2_; (try clear hb); (try clear hb2); (try clear hk); (try clear hi)) | ((with_reducible refine gate_builtin (b := .append) (xs := #[.tmp 19, .tmp 21]) rfl ?_); at_builtin; refine Kd.R_append (Kd.int .i64) (w0 := w) w.heap.size rfl (.tmp 19) (.tmp 21) 27 3 (.int .i64 0) 8 rfl Try.underlying27 info3 rfl (by decide) (by omega) u5 x5_1 x11_1 [.int .i64 x11_1] (fun _ => True) (fun _ => False) rfl rfl ?aP (fun _ hk => hk.elim) ?aF ?aO ?aB ?aS ?aL ?_; (case aP => exact rfl); (case aB => exact (hb1_ HB.out GE226.out)); (case aF => exact (fun _ _ => trivial)); (case aO => exact (by (with_reducible repeat (first | apply Kd.R_alloc | apply Kd.R_drewN | apply Kd.R_drew)); exact HO_5.out)); (case aS => exact (below_size (hb1_ HB.out GE226.out))); (case aL => have := LMc9.out; omega); intro v229 w13 ho hb hg hat; rw [← Ny228.out] at ho; have n0_ := Aside0.mk (blk_grown (g := gb226) (o := .cells #[.int .i64 ((rd_T33 l0 x11_1).f0), .int .i64 ((rd_T33 l0 x11_1).f1), .int .i64 ((rd_T33 l0 x11_1).f2), .int .i64 ((rd_T33 l0 x11_1).f3), .int .i64 ((rd_T33 l0 x11_1).f4), .string ((rd_T33 l0 x11_1).f5)] 33 (0, 0)) (bk_ BK226.out) hg (Kd.R_ne HO_5.out BK226.out (by decide))); have n1_ := Aside0.mk (hb); have n2_ := Aside0.mk (ho); clear BK226; clear HB; clear HO_5; have BK226 := n0_; have HB := n1_; have HO230 := n2_; clear n0_ n1_ n2_; clear ho hb hg hat))
                go_roundg k1
                case measure => have := HK1.out; omega
                case rel => exact ⟨(y228), (wrap64 (x11_1 + 1)), (by first | rfl | (simp; done) | (simp [*]; done)), H', ⟨by have := HK1.out; omega⟩, ⟨by (with_reducible repeat (first | apply Kd.R_alloc | apply Kd.R_drewN | apply Kd.R_drew)); exact HO230.out⟩, ⟨hb1_ HB.out GE226.out⟩⟩
              · rw [if_neg c9] at H
                exact absurd H (by simp)
            · replace c8 := Bool.eq_false_iff.mpr c8
              subst c8
              have H1 : (impl_places_Frame.l0 p k1 x5_1 l0 (l0.length : Int) (wrap64 (x11_1 + 1))) = some r := by rw [if_neg (show ¬ (false = true) by decide)] at H; exact H
              clear H
              have H := H1
              clear H1
              have H' := Aside0.mk H
              clear H
              have p225 : 0 ≤ (x11_1 : Int) := of_decide_eq_true (by first | (with_reducible assumption) | assumption)
              have q225 : x11_1 < (l0.length : Int) := of_decide_eq_true (by first | (with_reducible assumption) | assumption)
              obtain ⟨ad225, e225, hx225_0, hx225_1, hx225_2, hx225_3, hx225_4, hx225_5⟩ := at_T33 HR0.out x11_1 p225 q225
              cases e225
              replace hx225_0 := (HB.out.cell (World.block_lt_of_cell? w _ hx225_0)).trans hx225_0
              replace hx225_1 := (HB.out.cell (World.block_lt_of_cell? w _ hx225_1)).trans hx225_1
              replace hx225_2 := (HB.out.cell (World.block_lt_of_cell? w _ hx225_2)).trans hx225_2
              replace hx225_3 := (HB.out.cell (World.block_lt_of_cell? w _ hx225_3)).trans hx225_3
              replace hx225_4 := (HB.out.cell (World.block_lt_of_cell? w _ hx225_4)).trans hx225_4
              replace hx225_5 := (HB.out.cell (World.block_lt_of_cell? w _ hx225_5)).trans hx225_5
              replace p225 := eq_true p225
              replace q225 := eq_true q225
              go_wp2_with (first | ((with_reducible refine gate_dst (N := 7) rfl ?_); refine box_event ?hg (N := 7) ?hd (cs := #[.int .i64 0, .int .i64 0, .int .i64 0, .int .i64 0, .int .i64 0, .string (⟨#[]⟩ : ByteArray)]) (t := 33) ?hr ?_; (case hd => rfl); (case hg => rfl); (case hr => first | (go_simp; done) | (go_simp; rfl)); intro gb226 hg w14 hbox hb; have n0_ := Aside0.mk (Kd.R_below (by (with_reducible repeat (first | apply Kd.R_alloc | apply Kd.R_drewN | apply Kd.R_drew)); exact HO_5.out) hb); have n1_ := Aside0.mk (below_step (hb_ HB.out) hb); have n2_ := Aside0.mk (hbox); have n3_ := Aside0.mk ((by rw [hg]; exact (below_size (hb_ HB.out)) : w.heap.size ≤ gb226)); have n4_ := Aside0.mk ((by rw [hg]; exact (below_size (hb_ HB.out)) : w.heap.size ≤ gb226)); clear HO_5; clear HB; have HO_5 := n0_; have HB := n1_; have BK226 := n2_; have GW226 := n3_; have GE226 := n4_; clear n0_ n1_ n2_ n3_ n4_; clear hb hbox hg; have hcz15_0 := bc_ BK226.out 0 (.int .i64 0) rfl; have hcz15_1 := bc_ BK226.out 1 (.int .i64 0) rfl; have hcz15_2 := bc_ BK226.out 2 (.int .i64 0) rfl; have hcz15_3 := bc_ BK226.out 3 (.int .i64 0) rfl; have hcz15_4 := bc_ BK226.out 4 (.int .i64 0) rfl; have hcz15_5 : w14.cell? ⟨gb226, 5, none⟩ = some (.string (⟨#[]⟩ : ByteArray)) := (blk_cell BK226.out 5).trans rfl; have hfz15_0 := blk_frozen BK226.out 0; have hfz15_1 := blk_frozen BK226.out 1; have hfz15_2 := blk_frozen BK226.out 2; have hfz15_3 := blk_frozen BK226.out 3; have hfz15_4 := blk_frozen BK226.out 4; have hfz15_5 := blk_frozen BK226.out 5) | ((with_reducible refine (hC.out (rd_T33 l0 x11_1) false _ ?_ A7.out).mono ?_); (exact (hb1_ HB.out GE226.out)); rintro e w16 ⟨rfl, hb⟩; have n0_ := Aside0.mk (Kd.R_below (by (with_reducible repeat (first | apply Kd.R_alloc | apply Kd.R_drewN | apply Kd.R_drew)); exact (Kd.R_mono (Kd.R_far (p := ⟨gb226, 5, none⟩) (Kd.R_far (p := ⟨gb226, 4, none⟩) (Kd.R_far (p := ⟨gb226, 3, none⟩) (Kd.R_far (p := ⟨gb226, 2, none⟩) (Kd.R_far (p := ⟨gb226, 1, none⟩) (Kd.R_far (p := ⟨gb226, 0, none⟩) (Kd.R_types HO_5.out BK226.out (by decide)) (fun _ hk => hk.2) (.int .i64 ((rd_T33 l0 x11_1).f0))) (fun _ hk => hk.2) (.int .i64 ((rd_T33 l0 x11_1).f1))) (fun _ hk => hk.2) (.int .i64 ((rd_T33 l0 x11_1).f2))) (fun _ hk => hk.2) (.int .i64 ((rd_T33 l0 x11_1).f3))) (fun _ hk => hk.2) (.int .i64 ((rd_T33 l0 x11_1).f4))) (fun _ hk => hk.2) (.string ((rd_T33 l0 x11_1).f5))) (fun _ h_ => h_.1))) hb); have n1_ := Aside0.mk (blk_below (g := gb226) (o := .cells #[.int .i64 ((rd_T33 l0 x11_1).f0), .int .i64 ((rd_T33 l0 x11_1).f1), .int .i64 ((rd_T33 l0 x11_1).f2), .int .i64 ((rd_T33 l0 x11_1).f3), .int .i64 ((rd_T33 l0 x11_1).f4), .string ((rd_T33 l0 x11_1).f5)] 33 (0, 0)) (by (with_reducible repeat (first | refine blk_drewN ?_ _ | refine blk_drew ?_ | refine blk_alloc ?_ _)); refine blk_put (cs := #[.int .i64 ((rd_T33 l0 x11_1).f0), .int .i64 ((rd_T33 l0 x11_1).f1), .int .i64 ((rd_T33 l0 x11_1).f2), .int .i64 ((rd_T33 l0 x11_1).f3), .int .i64 ((rd_T33 l0 x11_1).f4), .string (⟨#[]⟩ : ByteArray)]) ?_ 5 _ rfl; (with_reducible repeat (first | refine blk_drewN ?_ _ | refine blk_drew ?_ | refine blk_alloc ?_ _)); refine blk_put (cs := #[.int .i64 ((rd_T33 l0 x11_1).f0), .int .i64 ((rd_T33 l0 x11_1).f1), .int .i64 ((rd_T33 l0 x11_1).f2), .int .i64 ((rd_T33 l0 x11_1).f3), .int .i64 0, .string (⟨#[]⟩ : ByteArray)]) ?_ 4 _ rfl; (with_reducible repeat (first | refine blk_drewN ?_ _ | refine blk_drew ?_ | refine blk_alloc ?_ _)); refine blk_put (cs := #[.int .i64 ((rd_T33 l0 x11_1).f0), .int .i64 ((rd_T33 l0 x11_1).f1), .int .i64 ((rd_T33 l0 x11_1).f2), .int .i64 0, .int .i64 0, .string (⟨#[]⟩ : ByteArray)]) ?_ 3 _ rfl; (with_reducible repeat (first | refine blk_drewN ?_ _ | refine blk_drew ?_ | refine blk_alloc ?_ _)); refine blk_put (cs := #[.int .i64 ((rd_T33 l0 x11_1).f0), .int .i64 ((rd_T33 l0 x11_1).f1), .int .i64 0, .int .i64 0, .int .i64 0, .string (⟨#[]⟩ : ByteArray)]) ?_ 2 _ rfl; (with_reducible repeat (first | refine blk_drewN ?_ _ | refine blk_drew ?_ | refine blk_alloc ?_ _)); refine blk_put (cs := #[.int .i64 ((rd_T33 l0 x11_1).f0), .int .i64 0, .int .i64 0, .int .i64 0, .int .i64 0, .string (⟨#[]⟩ : ByteArray)]) ?_ 1 _ rfl; (with_reducible repeat (first | refine blk_drewN ?_ _ | refine blk_drew ?_ | refine blk_alloc ?_ _)); refine blk_put (cs := #[.int .i64 0, .int .i64 0, .int .i64 0, .int .i64 0, .int .i64 0, .string (⟨#[]⟩ : ByteArray)]) ?_ 0 _ rfl; (with_reducible repeat (first | refine blk_drewN ?_ _ | refine blk_drew ?_ | refine blk_alloc ?_ _)); exact BK226.out) hb); have n2_ := Aside0.mk (below_step (hb1_ HB.out GE226.out) hb); clear HO_5; clear BK226; clear HB; have HO_5 := n0_; have BK226 := n1_; have HB := n2_; clear n0_ n1_ n2_; (try clear hb); (try clear hb2); (try clear hk); (try clear hi)))
              go_roundg k1
              case measure => have := HK1.out; omega
              case rel => exact ⟨(x5_1), (wrap64 (x11_1 + 1)), (by first | rfl | (simp; done) | (simp [*]; done)), H', ⟨by have := HK1.out; omega⟩, ⟨by (with_reducible repeat (first | apply Kd.R_alloc | apply Kd.R_drewN | apply Kd.R_drew)); exact HO_5.out⟩, ⟨hb1_ HB.out GE226.out⟩⟩
          · rw [if_neg c6] at H
            exact absurd H (by simp)
        · rw [if_neg c5] at H
          exact absurd H (by simp)
      · rw [if_neg c4] at H
        have c4b0 : decide (x11_1 < (l0.length : Int)) = false := decide_eq_false c4
        clear c4
        obtain rfl := Option.some.inj H
        go_wp2
        go_ret
        exact ⟨_, er_, by (with_reducible repeat (first | apply Kd.R_alloc | apply Kd.R_drewN | apply Kd.R_drew)); exact HO_5.out, hb_ HB.out⟩
def impl_clash.f (a0_0 : Int) (a0_1 : Int) (a0_2 : Int) (a0_3 : Int) (a0_4 : Int) (a0_5 : ByteArray) (a1_0 : Int) (a1_1 : Int) (a1_2 : Int) (a1_3 : Int) (a1_4 : Int) (a1_5 : ByteArray) : Option (Bool) := if a0_3 < a1_4 then (some (decide (a1_3 < a0_4))) else (some false)
set_option maxHeartbeats 8000000 in
set_option maxRecDepth 100000 in
theorem impl_clash.calls (a0_0 : Int) (a0_1 : Int) (a0_2 : Int) (a0_3 : Int) (a0_4 : Int) (a0_5 : ByteArray) (a1_0 : Int) (a1_1 : Int) (a1_2 : Int) (a1_3 : Int) (a1_4 : Int) (a1_5 : ByteArray) (r : Bool) (w : World) (h : impl_clash.f a0_0 a0_1 a0_2 a0_3 a0_4 a0_5 a1_0 a1_1 a1_2 a1_3 a1_4 a1_5 = some r) :
    Calls Try.prog 53 #[.agg #[.int .i64 a0_0, .int .i64 a0_1, .int .i64 a0_2, .int .i64 a0_3, .int .i64 a0_4, .string a0_5], .agg #[.int .i64 a1_0, .int .i64 a1_1, .int .i64 a1_2, .int .i64 a1_3, .int .i64 a1_4, .string a1_5]] w fun e w' => e = .returned (.bool r) ∧ Below w.heap.size w w' := by
  have hu33 := Try.underlying33
  have HB := Aside0.mk (Below.refl w.heap.size w)
  have H : (if a0_3 < a1_4 then (some (decide (a1_3 < a0_4))) else (some false)) = some r := h
  clear h
  by_cases c3 : a0_3 < a1_4
  · rw [if_pos c3] at H
    have c3b0 : decide (a0_3 < a1_4) = true := decide_eq_true c3
    clear c3
    obtain rfl := Option.some.inj H
    go_enter Try.func53, Try.ntmps53
    go_wp2_with (first | ((with_reducible refine gate_dst (N := 2) rfl ?_); refine box_event ?hg (N := 2) ?hd (cs := #[.int .i64 a0_0, .int .i64 a0_1, .int .i64 a0_2, .int .i64 a0_3, .int .i64 a0_4, .string a0_5]) (t := 33) ?hr ?_; (case hd => rfl); (case hg => rfl); (case hr => first | (go_simp; done) | (go_simp; rfl)); intro gb721 hg w4 hbox hb; have n0_ := Aside0.mk (below_step (hb_ HB.out) hb); have n1_ := Aside0.mk (hbox); have n2_ := Aside0.mk ((by rw [hg]; exact (below_size (hb_ HB.out)) : w.heap.size ≤ gb721)); have n3_ := Aside0.mk ((by rw [hg]; exact (below_size (hb_ HB.out)) : w.heap.size ≤ gb721)); clear HB; have HB := n0_; have BK721 := n1_; have GW721 := n2_; have GE721 := n3_; clear n0_ n1_ n2_ n3_; clear hb hbox hg) | ((with_reducible refine gate_dst (N := 3) rfl ?_); refine box_event ?hg (N := 3) ?hd (cs := #[.int .i64 a1_0, .int .i64 a1_1, .int .i64 a1_2, .int .i64 a1_3, .int .i64 a1_4, .string a1_5]) (t := 33) ?hr ?_; (case hd => rfl); (case hg => rfl); (case hr => first | (go_simp; done) | (go_simp; rfl)); intro gb722 hg w5 hbox hb; have n0_ := Aside0.mk (bb_ BK721.out hb); have n1_ := Aside0.mk (below_step (hb1_ HB.out GE721.out) hb); have n2_ := Aside0.mk (hbox); have n3_ := Aside0.mk ((by rw [hg]; exact (below_size (hb1_ HB.out GE721.out)) : w.heap.size ≤ gb722)); have n4_ := Aside0.mk ((by rw [hg]; exact (below_size (hb1_ HB.out GE721.out)) : w.heap.size ≤ gb722)); have n5_ := Aside0.mk ((bl_ hg BK721.out : gb721 ≠ gb722)); have n6_ := Aside0.mk ((bg_ hg BK721.out : gb722 ≠ gb721)); clear BK721; clear HB; have BK721 := n0_; have HB := n1_; have BK722 := n2_; have GW722 := n3_; have GE722 := n4_; have NB721_722 := n5_; have NB722_721 := n6_; clear n0_ n1_ n2_ n3_ n4_ n5_ n6_; clear hb hbox hg; have hnb6 := NB721_722.out; have hnc6 := NB722_721.out; have hcz7_0 := bc_ BK721.out 0 (.int .i64 a0_0) rfl; have hcz7_1 := bc_ BK721.out 1 (.int .i64 a0_1) rfl; have hcz7_2 := bc_ BK721.out 2 (.int .i64 a0_2) rfl; have hcz7_3 := bc_ BK721.out 3 (.int .i64 a0_3) rfl; have hcz7_4 := bc_ BK721.out 4 (.int .i64 a0_4) rfl; have hcz7_5 := bc_ BK721.out 5 (.string a0_5) rfl; have hfz7_0 := blk_frozen BK721.out 0; have hfz7_1 := blk_frozen BK721.out 1; have hfz7_2 := blk_frozen BK721.out 2; have hfz7_3 := blk_frozen BK721.out 3; have hfz7_4 := blk_frozen BK721.out 4; have hfz7_5 := blk_frozen BK721.out 5; have hcz8_0 := bc_ BK722.out 0 (.int .i64 a1_0) rfl; have hcz8_1 := bc_ BK722.out 1 (.int .i64 a1_1) rfl; have hcz8_2 := bc_ BK722.out 2 (.int .i64 a1_2) rfl; have hcz8_3 := bc_ BK722.out 3 (.int .i64 a1_3) rfl; have hcz8_4 := bc_ BK722.out 4 (.int .i64 a1_4) rfl; have hcz8_5 := bc_ BK722.out 5 (.string a1_5) rfl; have hfz8_0 := blk_frozen BK722.out 0; have hfz8_1 := blk_frozen BK722.out 1; have hfz8_2 := blk_frozen BK722.out 2; have hfz8_3 := blk_frozen BK722.out 3; have hfz8_4 := blk_frozen BK722.out 4; have hfz8_5 := blk_frozen BK722.out 5))
    go_ret
    exact ⟨er_, hb2_ HB.out GE721.out GE722.out⟩
  · rw [if_neg c3] at H
    have c3b0 : decide (a0_3 < a1_4) = false := decide_eq_false c3
    clear c3
    obtain rfl := Option.some.inj H
    go_enter Try.func53, Try.ntmps53
    go_wp2_with (first | ((with_reducible refine gate_dst (N := 2) rfl ?_); refine box_event ?hg (N := 2) ?hd (cs := #[.int .i64 a0_0, .int .i64 a0_1, .int .i64 a0_2, .int .i64 a0_3, .int .i64 a0_4, .string a0_5]) (t := 33) ?hr ?_; (case hd => rfl); (case hg => rfl); (case hr => first | (go_simp; done) | (go_simp; rfl)); intro gb721 hg w9 hbox hb; have n0_ := Aside0.mk (below_step (hb_ HB.out) hb); have n1_ := Aside0.mk (hbox); have n2_ := Aside0.mk ((by rw [hg]; exact (below_size (hb_ HB.out)) : w.heap.size ≤ gb721)); have n3_ := Aside0.mk ((by rw [hg]; exact (below_size (hb_ HB.out)) : w.heap.size ≤ gb721)); clear HB; have HB := n0_; have BK721 := n1_; have GW721 := n2_; have GE721 := n3_; clear n0_ n1_ n2_ n3_; clear hb hbox hg) | ((with_reducible refine gate_dst (N := 3) rfl ?_); refine box_event ?hg (N := 3) ?hd (cs := #[.int .i64 a1_0, .int .i64 a1_1, .int .i64 a1_2, .int .i64 a1_3, .int .i64 a1_4, .string a1_5]) (t := 33) ?hr ?_; (case hd => rfl); (case hg => rfl); (case hr => first | (go_simp; done) | (go_simp; rfl)); intro gb722 hg w10 hbox hb; have n0_ := Aside0.mk (bb_ BK721.out hb); have n1_ := Aside0.mk (below_step (hb1_ HB.out GE721.out) hb); have n2_ := Aside0.mk (hbox); have n3_ := Aside0.mk ((by rw [hg]; exact (below_size (hb1_ HB.out GE721.out)) : w.heap.size ≤ gb722)); have n4_ := Aside0.mk ((by rw [hg]; exact (below_size (hb1_ HB.out GE721.out)) : w.heap.size ≤ gb722)); have n5_ := Aside0.mk ((bl_ hg BK721.out : gb721 ≠ gb722)); have n6_ := Aside0.mk ((bg_ hg BK721.out : gb722 ≠ gb721)); clear BK721; clear HB; have BK721 := n0_; have HB := n1_; have BK722 := n2_; have GW722 := n3_; have GE722 := n4_; have NB721_722 := n5_; have NB722_721 := n6_; clear n0_ n1_ n2_ n3_ n4_ n5_ n6_; clear hb hbox hg; have hnb11 := NB721_722.out; have hnc11 := NB722_721.out; have hcz12_0 := bc_ BK721.out 0 (.int .i64 a0_0) rfl; have hcz12_1 := bc_ BK721.out 1 (.int .i64 a0_1) rfl; have hcz12_2 := bc_ BK721.out 2 (.int .i64 a0_2) rfl; have hcz12_3 := bc_ BK721.out 3 (.int .i64 a0_3) rfl; have hcz12_4 := bc_ BK721.out 4 (.int .i64 a0_4) rfl; have hcz12_5 := bc_ BK721.out 5 (.string a0_5) rfl; have hfz12_0 := blk_frozen BK721.out 0; have hfz12_1 := blk_frozen BK721.out 1; have hfz12_2 := blk_frozen BK721.out 2; have hfz12_3 := blk_frozen BK721.out 3; have hfz12_4 := blk_frozen BK721.out 4; have hfz12_5 := blk_frozen BK721.out 5; have hcz13_0 := bc_ BK722.out 0 (.int .i64 a1_0) rfl; have hcz13_1 := bc_ BK722.out 1 (.int .i64 a1_1) rfl; have hcz13_2 := bc_ BK722.out 2 (.int .i64 a1_2) rfl; have hcz13_3 := bc_ BK722.out 3 (.int .i64 a1_3) rfl; have hcz13_4 := bc_ BK722.out 4 (.int .i64 a1_4) rfl; have hcz13_5 := bc_ BK722.out 5 (.string a1_5) rfl; have hfz13_0 := blk_frozen BK722.out 0; have hfz13_1 := blk_frozen BK722.out 1; have hfz13_2 := blk_frozen BK722.out 2; have hfz13_3 := blk_frozen BK722.out 3; have hfz13_4 := blk_frozen BK722.out 4; have hfz13_5 := blk_frozen BK722.out 5))
    go_ret
    exact ⟨er_, hb2_ HB.out GE721.out GE722.out⟩
end Go.Proofs.Ytjlmfnpgcmmdnaa.P
namespace Go.Proofs.Ytjlmfnpgcmmdnaa.P
open Go.RowKit Go.Proofs.YtjlmfnpgcmmdnaaW.PrintWords Go.Proofs.YtjlmfnpgcmmdnaaW.PrintLast Go.Proofs.YtjlmfnpgcmmdnaaW.PrintMore
attribute [local go_sem] max2_int min2_int max_two min_two max_three min_three max_four min_four
set_option linter.unusedVariables false
set_option linter.unusedSimpArgs false
set_option maxHeartbeats 8000000 in
set_option maxRecDepth 100000 in
theorem impl_BusHeard_1_1.calls (gf : Nat) (y x : S33) (b : Bool) (w : World) (hx : w.heap[gf]? = some (.cells #[.int .i64 y.f0, .int .i64 y.f1, .int .i64 y.f2, .int .i64 y.f3, .int .i64 y.f4, .string y.f5] 33 (0, 0))) (h : impl_clash.f y.f0 y.f1 y.f2 y.f3 y.f4 y.f5 x.f0 x.f1 x.f2 x.f3 x.f4 x.f5 = some b) :
    Calls Try.prog 52 (#[.agg #[.int .i64 x.f0, .int .i64 x.f1, .int .i64 x.f2, .int .i64 x.f3, .int .i64 x.f4, .string x.f5]] ++ #[.pointer (some ⟨gf, 0, none⟩)]) w fun e w' => e = .returned (.bool b) ∧ Below w.heap.size w w' := by
  have hu0 := Try.underlying33
  have HB := Aside0.mk (Below.refl w.heap.size w)
  have Bgf := Aside0.mk hx
  have A1 := Aside0.mk h
  clear h
  have hcgf0_w : w.cell? ⟨gf, 0, none⟩ = some (.int .i64 y.f0) := (blk_cell Bgf.out 0).trans rfl
  have hzgf0_w := blk_frozen Bgf.out 0
  have hcgf1_w : w.cell? ⟨gf, 1, none⟩ = some (.int .i64 y.f1) := (blk_cell Bgf.out 1).trans rfl
  have hzgf1_w := blk_frozen Bgf.out 1
  have hcgf2_w : w.cell? ⟨gf, 2, none⟩ = some (.int .i64 y.f2) := (blk_cell Bgf.out 2).trans rfl
  have hzgf2_w := blk_frozen Bgf.out 2
  have hcgf3_w : w.cell? ⟨gf, 3, none⟩ = some (.int .i64 y.f3) := (blk_cell Bgf.out 3).trans rfl
  have hzgf3_w := blk_frozen Bgf.out 3
  have hcgf4_w : w.cell? ⟨gf, 4, none⟩ = some (.int .i64 y.f4) := (blk_cell Bgf.out 4).trans rfl
  have hzgf4_w := blk_frozen Bgf.out 4
  have hcgf5_w : w.cell? ⟨gf, 5, none⟩ = some (.string y.f5) := (blk_cell Bgf.out 5).trans rfl
  have hzgf5_w := blk_frozen Bgf.out 5
  clear hx
  go_enter Try.func52, Try.ntmps52
  go_wp2_with (first | ((with_reducible refine gate_dst (N := 2) rfl ?_); refine box_event ?hg (N := 2) ?hd (cs := #[.int .i64 x.f0, .int .i64 x.f1, .int .i64 x.f2, .int .i64 x.f3, .int .i64 x.f4, .string x.f5]) (t := 33) ?hr ?_; (case hd => rfl); (case hg => rfl); (case hr => first | (go_simp; done) | (go_simp; rfl)); intro ga hg w1 hbox hb; have oBgf := Aside0.mk (blk_below (bk_ Bgf.out) hb); have n0_ := Aside0.mk (below_step (hb_ HB.out) hb); clear HB; have HB := n0_; clear n0_; clear Bgf; have Bgf := oBgf; clear oBgf; have Bga := Aside0.mk (hbox); clear hb hbox hg; have hcgf0_w1 : w1.cell? ⟨gf, 0, none⟩ = some (.int .i64 y.f0) := (blk_cell Bgf.out 0).trans rfl; have hzgf0_w1 := blk_frozen Bgf.out 0; have hcgf1_w1 : w1.cell? ⟨gf, 1, none⟩ = some (.int .i64 y.f1) := (blk_cell Bgf.out 1).trans rfl; have hzgf1_w1 := blk_frozen Bgf.out 1; have hcgf2_w1 : w1.cell? ⟨gf, 2, none⟩ = some (.int .i64 y.f2) := (blk_cell Bgf.out 2).trans rfl; have hzgf2_w1 := blk_frozen Bgf.out 2; have hcgf3_w1 : w1.cell? ⟨gf, 3, none⟩ = some (.int .i64 y.f3) := (blk_cell Bgf.out 3).trans rfl; have hzgf3_w1 := blk_frozen Bgf.out 3; have hcgf4_w1 : w1.cell? ⟨gf, 4, none⟩ = some (.int .i64 y.f4) := (blk_cell Bgf.out 4).trans rfl; have hzgf4_w1 := blk_frozen Bgf.out 4; have hcgf5_w1 : w1.cell? ⟨gf, 5, none⟩ = some (.string y.f5) := (blk_cell Bgf.out 5).trans rfl; have hzgf5_w1 := blk_frozen Bgf.out 5; have hcga0_w1 : w1.cell? ⟨ga, 0, none⟩ = some (.int .i64 x.f0) := (blk_cell Bga.out 0).trans rfl; have hzga0_w1 := blk_frozen Bga.out 0; have hcga1_w1 : w1.cell? ⟨ga, 1, none⟩ = some (.int .i64 x.f1) := (blk_cell Bga.out 1).trans rfl; have hzga1_w1 := blk_frozen Bga.out 1; have hcga2_w1 : w1.cell? ⟨ga, 2, none⟩ = some (.int .i64 x.f2) := (blk_cell Bga.out 2).trans rfl; have hzga2_w1 := blk_frozen Bga.out 2; have hcga3_w1 : w1.cell? ⟨ga, 3, none⟩ = some (.int .i64 x.f3) := (blk_cell Bga.out 3).trans rfl; have hzga3_w1 := blk_frozen Bga.out 3; have hcga4_w1 : w1.cell? ⟨ga, 4, none⟩ = some (.int .i64 x.f4) := (blk_cell Bga.out 4).trans rfl; have hzga4_w1 := blk_frozen Bga.out 4; have hcga5_w1 : w1.cell? ⟨ga, 5, none⟩ = some (.string x.f5) := (blk_cell Bga.out 5).trans rfl; have hzga5_w1 := blk_frozen Bga.out 5) | (go_at_call 53; (with_reducible refine (impl_clash.calls y.f0 y.f1 y.f2 y.f3 y.f4 y.f5 x.f0 x.f1 x.f2 x.f3 x.f4 x.f5 b _ A1.out).mono ?_); rintro e w2 ⟨rfl, hb⟩; have oBgf := Aside0.mk (blk_below (bk_ Bgf.out) hb); have oBga := Aside0.mk (blk_below (bk_ Bga.out) hb); have n0_ := Aside0.mk (below_step (hb_ HB.out) hb); clear HB; have HB := n0_; clear n0_; clear Bgf; have Bgf := oBgf; clear oBgf; clear Bga; have Bga := oBga; clear oBga; (try clear hb); have hcgf0_w2 : w2.cell? ⟨gf, 0, none⟩ = some (.int .i64 y.f0) := (blk_cell Bgf.out 0).trans rfl; have hzgf0_w2 := blk_frozen Bgf.out 0; have hcgf1_w2 : w2.cell? ⟨gf, 1, none⟩ = some (.int .i64 y.f1) := (blk_cell Bgf.out 1).trans rfl; have hzgf1_w2 := blk_frozen Bgf.out 1; have hcgf2_w2 : w2.cell? ⟨gf, 2, none⟩ = some (.int .i64 y.f2) := (blk_cell Bgf.out 2).trans rfl; have hzgf2_w2 := blk_frozen Bgf.out 2; have hcgf3_w2 : w2.cell? ⟨gf, 3, none⟩ = some (.int .i64 y.f3) := (blk_cell Bgf.out 3).trans rfl; have hzgf3_w2 := blk_frozen Bgf.out 3; have hcgf4_w2 : w2.cell? ⟨gf, 4, none⟩ = some (.int .i64 y.f4) := (blk_cell Bgf.out 4).trans rfl; have hzgf4_w2 := blk_frozen Bgf.out 4; have hcgf5_w2 : w2.cell? ⟨gf, 5, none⟩ = some (.string y.f5) := (blk_cell Bgf.out 5).trans rfl; have hzgf5_w2 := blk_frozen Bgf.out 5; have hcga0_w2 : w2.cell? ⟨ga, 0, none⟩ = some (.int .i64 x.f0) := (blk_cell Bga.out 0).trans rfl; have hzga0_w2 := blk_frozen Bga.out 0; have hcga1_w2 : w2.cell? ⟨ga, 1, none⟩ = some (.int .i64 x.f1) := (blk_cell Bga.out 1).trans rfl; have hzga1_w2 := blk_frozen Bga.out 1; have hcga2_w2 : w2.cell? ⟨ga, 2, none⟩ = some (.int .i64 x.f2) := (blk_cell Bga.out 2).trans rfl; have hzga2_w2 := blk_frozen Bga.out 2; have hcga3_w2 : w2.cell? ⟨ga, 3, none⟩ = some (.int .i64 x.f3) := (blk_cell Bga.out 3).trans rfl; have hzga3_w2 := blk_frozen Bga.out 3; have hcga4_w2 : w2.cell? ⟨ga, 4, none⟩ = some (.int .i64 x.f4) := (blk_cell Bga.out 4).trans rfl; have hzga4_w2 := blk_frozen Bga.out 4; have hcga5_w2 : w2.cell? ⟨ga, 5, none⟩ = some (.string x.f5) := (blk_cell Bga.out 5).trans rfl; have hzga5_w2 := blk_frozen Bga.out 5))
  go_ret
  exact ⟨rfl, hb_ HB.out⟩
end Go.Proofs.Ytjlmfnpgcmmdnaa.P
namespace Go.Proofs.Ytjlmfnpgcmmdnaa.P
open Go.RowKit Go.Proofs.YtjlmfnpgcmmdnaaW.PrintWords Go.Proofs.YtjlmfnpgcmmdnaaW.PrintLast Go.Proofs.YtjlmfnpgcmmdnaaW.PrintMore
attribute [local go_sem] max2_int min2_int max_two min_two max_three min_three max_four min_four
set_option linter.unusedVariables false
set_option linter.unusedSimpArgs false
def impl_BusHeard_1.f (k : Nat) (l0 : List (S33)) (t : Int) (x : S33) : Option Bool := if x.f4 ≤ t then (impl_places_Frame.f (fun z => impl_clash.f x.f0 x.f1 x.f2 x.f3 x.f4 x.f5 z.f0 z.f1 z.f2 z.f3 z.f4 z.f5) k l0).bind fun q => some ((q.length : Int) == 1) else some false
set_option maxHeartbeats 8000000 in
set_option maxRecDepth 100000 in
theorem impl_BusHeard_1.calls (k : Nat) (gt gl : Nat) (t : Int) (A0 : Option Addr) (c0 : Nat) (l0 : List (S33)) (x : S33) (b : Bool) (w : World) (ht : w.heap[gt]? = some (.cells #[.int .i64 t] 3 (0, 0))) (hl : w.heap[gl]? = some (.cells #[.slice A0 l0.length c0] 24 (0, 0))) (hr0 : Kd.C k33 w A0 l0.length l0) (hc0 : l0.length ≤ c0) (h : impl_BusHeard_1.f k l0 t x = some b) :
    Calls Try.prog 51 (#[.agg #[.int .i64 x.f0, .int .i64 x.f1, .int .i64 x.f2, .int .i64 x.f3, .int .i64 x.f4, .string x.f5]] ++ #[.pointer (some ⟨gt, 0, none⟩), .pointer (some ⟨gl, 0, none⟩)]) w fun e w' => e = .returned (.bool b) ∧ Below w.heap.size w w' := by
  have hu0 := Try.underlying33
  have HB := Aside0.mk (Below.refl w.heap.size w)
  have HR0 := Aside0.mk hr0
  have HC0 := Aside0.mk hc0
  clear hr0 hc0
  have Bgt := Aside0.mk ht
  have Bgl := Aside0.mk hl
  have hcgt0_w : w.cell? ⟨gt, 0, none⟩ = some (.int .i64 t) := (blk_cell Bgt.out 0).trans rfl
  have hzgt0_w := blk_frozen Bgt.out 0
  have hcgl0_w : w.cell? ⟨gl, 0, none⟩ = some (.slice A0 l0.length c0) := (blk_cell Bgl.out 0).trans rfl
  have hzgl0_w := blk_frozen Bgl.out 0
  clear ht hl
  unfold impl_BusHeard_1.f at h
  by_cases c : x.f4 ≤ t
  · rw [if_pos c] at h
    have cb : decide (x.f4 ≤ t) = true := decide_eq_true c
    clear c
    obtain ⟨r, H, h2⟩ := Option.bind_eq_some_iff.mp h
    clear h
    obtain rfl := Option.some.inj h2
    clear h2
    have H := Aside0.mk H
    go_enter Try.func51, Try.ntmps51
    go_wp2_with (first | ((with_reducible refine gate_dst (N := 3) rfl ?_); refine box_event ?hg (N := 3) ?hd (cs := #[.int .i64 x.f0, .int .i64 x.f1, .int .i64 x.f2, .int .i64 x.f3, .int .i64 x.f4, .string x.f5]) (t := 33) ?hr ?_; (case hd => rfl); (case hg => rfl); (case hr => first | (go_simp; done) | (go_simp; rfl)); intro ga hg w1 hbox hb; have oBgt := Aside0.mk (blk_below (bk_ Bgt.out) hb); have oBgl := Aside0.mk (blk_below (bk_ Bgl.out) hb); have n0_ := Aside0.mk (below_step (hb_ HB.out) hb); clear HB; have HB := n0_; clear n0_; clear Bgt; have Bgt := oBgt; clear oBgt; clear Bgl; have Bgl := oBgl; clear oBgl; have Bga := Aside0.mk (hbox); clear hb hbox hg; have hcgt0_w1 : w1.cell? ⟨gt, 0, none⟩ = some (.int .i64 t) := (blk_cell Bgt.out 0).trans rfl; have hzgt0_w1 := blk_frozen Bgt.out 0; have hcgl0_w1 : w1.cell? ⟨gl, 0, none⟩ = some (.slice A0 l0.length c0) := (blk_cell Bgl.out 0).trans rfl; have hzgl0_w1 := blk_frozen Bgl.out 0; have hcga0_w1 : w1.cell? ⟨ga, 0, none⟩ = some (.int .i64 x.f0) := (blk_cell Bga.out 0).trans rfl; have hzga0_w1 := blk_frozen Bga.out 0; have hcga1_w1 : w1.cell? ⟨ga, 1, none⟩ = some (.int .i64 x.f1) := (blk_cell Bga.out 1).trans rfl; have hzga1_w1 := blk_frozen Bga.out 1; have hcga2_w1 : w1.cell? ⟨ga, 2, none⟩ = some (.int .i64 x.f2) := (blk_cell Bga.out 2).trans rfl; have hzga2_w1 := blk_frozen Bga.out 2; have hcga3_w1 : w1.cell? ⟨ga, 3, none⟩ = some (.int .i64 x.f3) := (blk_cell Bga.out 3).trans rfl; have hzga3_w1 := blk_frozen Bga.out 3; have hcga4_w1 : w1.cell? ⟨ga, 4, none⟩ = some (.int .i64 x.f4) := (blk_cell Bga.out 4).trans rfl; have hzga4_w1 := blk_frozen Bga.out 4; have hcga5_w1 : w1.cell? ⟨ga, 5, none⟩ = some (.string x.f5) := (blk_cell Bga.out 5).trans rfl; have hzga5_w1 := blk_frozen Bga.out 5) | (go_at_call 50; (with_reducible refine (impl_places_Frame.calls k (fun z => impl_clash.f x.f0 x.f1 x.f2 x.f3 x.f4 x.f5 z.f0 z.f1 z.f2 z.f3 z.f4 z.f5) 52 #[.pointer (some ⟨ga, 0, none⟩)] Try.f52 Try.func52 (by kernel_rfl) rfl A0 c0 l0 r _ ?hC ?s1 ?s2 H.out).mono ?_); (case hC => exact fun z b W hW hp => impl_BusHeard_1_1.calls ga x z b W (blk_below (bk_ Bga.out) hW) hp); (case s1 => exact Kd.C_below HR0.out (hb_ HB.out)); (case s2 => exact HC0.out); rintro e w2 ⟨v0, rfl, ho, hb⟩; have HO := Aside0.mk (Kd.R_lower ho (below_size (hb_ HB.out))); have oBgt := Aside0.mk (blk_below (bk_ Bgt.out) hb); have oBgl := Aside0.mk (blk_below (bk_ Bgl.out) hb); have oBga := Aside0.mk (blk_below (bk_ Bga.out) hb); have n0_ := Aside0.mk (below_step (hb_ HB.out) hb); clear HB; have HB := n0_; clear n0_; clear Bgt; have Bgt := oBgt; clear oBgt; clear Bgl; have Bgl := oBgl; clear oBgl; clear Bga; have Bga := oBga; clear oBga; (try clear hb); (try clear ho); obtain ⟨Ao, co, eo⟩ := Kd.R_slice HO.out; subst eo))
    go_ret
    exact ⟨by first | rfl | simp, hb_ HB.out⟩
  · rw [if_neg c] at h
    have cb : decide (x.f4 ≤ t) = false := decide_eq_false c
    clear c
    obtain rfl := Option.some.inj h
    clear h
    go_enter Try.func51, Try.ntmps51
    go_wp2_with (first | ((with_reducible refine gate_dst (N := 3) rfl ?_); refine box_event ?hg (N := 3) ?hd (cs := #[.int .i64 x.f0, .int .i64 x.f1, .int .i64 x.f2, .int .i64 x.f3, .int .i64 x.f4, .string x.f5]) (t := 33) ?hr ?_; (case hd => rfl); (case hg => rfl); (case hr => first | (go_simp; done) | (go_simp; rfl)); intro ga hg w1 hbox hb; have oBgt := Aside0.mk (blk_below (bk_ Bgt.out) hb); have oBgl := Aside0.mk (blk_below (bk_ Bgl.out) hb); have n0_ := Aside0.mk (below_step (hb_ HB.out) hb); clear HB; have HB := n0_; clear n0_; clear Bgt; have Bgt := oBgt; clear oBgt; clear Bgl; have Bgl := oBgl; clear oBgl; have Bga := Aside0.mk (hbox); clear hb hbox hg; have hcgt0_w1 : w1.cell? ⟨gt, 0, none⟩ = some (.int .i64 t) := (blk_cell Bgt.out 0).trans rfl; have hzgt0_w1 := blk_frozen Bgt.out 0; have hcgl0_w1 : w1.cell? ⟨gl, 0, none⟩ = some (.slice A0 l0.length c0) := (blk_cell Bgl.out 0).trans rfl; have hzgl0_w1 := blk_frozen Bgl.out 0; have hcga0_w1 : w1.cell? ⟨ga, 0, none⟩ = some (.int .i64 x.f0) := (blk_cell Bga.out 0).trans rfl; have hzga0_w1 := blk_frozen Bga.out 0; have hcga1_w1 : w1.cell? ⟨ga, 1, none⟩ = some (.int .i64 x.f1) := (blk_cell Bga.out 1).trans rfl; have hzga1_w1 := blk_frozen Bga.out 1; have hcga2_w1 : w1.cell? ⟨ga, 2, none⟩ = some (.int .i64 x.f2) := (blk_cell Bga.out 2).trans rfl; have hzga2_w1 := blk_frozen Bga.out 2; have hcga3_w1 : w1.cell? ⟨ga, 3, none⟩ = some (.int .i64 x.f3) := (blk_cell Bga.out 3).trans rfl; have hzga3_w1 := blk_frozen Bga.out 3; have hcga4_w1 : w1.cell? ⟨ga, 4, none⟩ = some (.int .i64 x.f4) := (blk_cell Bga.out 4).trans rfl; have hzga4_w1 := blk_frozen Bga.out 4; have hcga5_w1 : w1.cell? ⟨ga, 5, none⟩ = some (.string x.f5) := (blk_cell Bga.out 5).trans rfl; have hzga5_w1 := blk_frozen Bga.out 5))
    go_ret
    exact ⟨by first | rfl | simp, hb_ HB.out⟩
def impl_BusHeard.f (k : Nat) (l0 : List (S33)) (a1 : Int) : Option (List Int) := (impl_BusOk.f k l0).bind fun t => if t = true then impl_places_Frame.f (fun x => impl_BusHeard_1.f k l0 a1 x) k l0 else some []
set_option maxHeartbeats 8000000 in
set_option maxRecDepth 100000 in
theorem impl_BusHeard.calls (k : Nat) (A0 : Option Addr) (c0 : Nat) (l0 : List (S33)) (a1 : Int) (r : List Int) (w : World) (hr0 : Kd.C k33 w A0 l0.length l0) (hc0 : l0.length ≤ c0) (h : impl_BusHeard.f k l0 a1 = some r) :
    Calls Try.prog 12 #[.slice A0 l0.length c0, .int .i64 a1] w fun e w' => ∃ v0_ : Value, e = .returned (v0_) ∧ Kd.R (Kd.int .i64) 3 w' w.heap.size (fun _ => True) v0_ r ∧ Below w.heap.size w w' := by
  have HB := Aside0.mk (Below.refl w.heap.size w)
  have HR0 := Aside0.mk hr0
  have HC0 := Aside0.mk hc0
  clear hr0 hc0
  unfold impl_BusHeard.f at h
  obtain ⟨t1, A1, H⟩ := Option.bind_eq_some_iff.mp h
  clear h
  have A1 := Aside0.mk A1
  cases t1 with
  | false =>
    rw [if_neg (by decide)] at H
    obtain rfl := Option.some.inj H
    clear H
    go_enter Try.func12, Try.ntmps12
    go_wp2_with (first | ((with_reducible refine gate_dst (N := 2) rfl ?_); refine box_event ?hg (N := 2) ?hd (cs := #[.slice A0 l0.length c0]) (t := 24) ?hr ?_; (case hd => rfl); (case hg => rfl); (case hr => first | (go_simp; done) | (go_simp; rfl)); intro gl hg w0 hbox hb; have n0_ := Aside0.mk (below_step (hb_ HB.out) hb); clear HB; have HB := n0_; clear n0_; have Bgl := Aside0.mk (hbox); clear hb hbox hg; have hcgl0_w0 : w0.cell? ⟨gl, 0, none⟩ = some (.slice A0 l0.length c0) := (blk_cell Bgl.out 0).trans rfl; have hzgl0_w0 := blk_frozen Bgl.out 0) | ((with_reducible refine gate_dst (N := 3) rfl ?_); refine box_event ?hg (N := 3) ?hd (cs := #[.int .i64 a1]) (t := 3) ?hr ?_; (case hd => rfl); (case hg => rfl); (case hr => first | (go_simp; done) | (go_simp; rfl)); intro gx hg w1 hbox hb; have oBgl := Aside0.mk (blk_below (bk_ Bgl.out) hb); have n0_ := Aside0.mk (below_step (hb_ HB.out) hb); clear HB; have HB := n0_; clear n0_; clear Bgl; have Bgl := oBgl; clear oBgl; have Bgx := Aside0.mk (hbox); clear hb hbox hg; have hcgl0_w1 : w1.cell? ⟨gl, 0, none⟩ = some (.slice A0 l0.length c0) := (blk_cell Bgl.out 0).trans rfl; have hzgl0_w1 := blk_frozen Bgl.out 0; have hcgx0_w1 : w1.cell? ⟨gx, 0, none⟩ = some (.int .i64 a1) := (blk_cell Bgx.out 0).trans rfl; have hzgx0_w1 := blk_frozen Bgx.out 0) | (go_at_call 15; (with_reducible refine (impl_BusOk.calls k A0 c0 l0 false _ ?s1 ?s2 A1.out).mono ?_); (case s1 => exact Kd.C_below HR0.out (hb_ HB.out)); (case s2 => exact HC0.out); rintro e w2 ⟨rfl, hb⟩; have oBgl := Aside0.mk (blk_below (bk_ Bgl.out) hb); have oBgx := Aside0.mk (blk_below (bk_ Bgx.out) hb); have n0_ := Aside0.mk (below_step (hb_ HB.out) hb); clear HB; have HB := n0_; clear n0_; clear Bgl; have Bgl := oBgl; clear oBgl; clear Bgx; have Bgx := oBgx; clear oBgx; (try clear hb); have hcgl0_w2 : w2.cell? ⟨gl, 0, none⟩ = some (.slice A0 l0.length c0) := (blk_cell Bgl.out 0).trans rfl; have hzgl0_w2 := blk_frozen Bgl.out 0; have hcgx0_w2 : w2.cell? ⟨gx, 0, none⟩ = some (.int .i64 a1) := (blk_cell Bgx.out 0).trans rfl; have hzgx0_w2 := blk_frozen Bgx.out 0))
    go_ret
    exact ⟨_, rfl, Kd.R_nil _ _ _ _ _, hb_ HB.out⟩
  | true =>
    rw [if_pos rfl] at H
    have H := Aside0.mk H
    go_enter Try.func12, Try.ntmps12
    go_wp2_with (first | ((with_reducible refine gate_dst (N := 2) rfl ?_); refine box_event ?hg (N := 2) ?hd (cs := #[.slice A0 l0.length c0]) (t := 24) ?hr ?_; (case hd => rfl); (case hg => rfl); (case hr => first | (go_simp; done) | (go_simp; rfl)); intro gl hg w0 hbox hb; have n0_ := Aside0.mk (below_step (hb_ HB.out) hb); clear HB; have HB := n0_; clear n0_; have Bgl := Aside0.mk (hbox); clear hb hbox hg; have hcgl0_w0 : w0.cell? ⟨gl, 0, none⟩ = some (.slice A0 l0.length c0) := (blk_cell Bgl.out 0).trans rfl; have hzgl0_w0 := blk_frozen Bgl.out 0) | ((with_reducible refine gate_dst (N := 3) rfl ?_); refine box_event ?hg (N := 3) ?hd (cs := #[.int .i64 a1]) (t := 3) ?hr ?_; (case hd => rfl); (case hg => rfl); (case hr => first | (go_simp; done) | (go_simp; rfl)); intro gx hg w1 hbox hb; have oBgl := Aside0.mk (blk_below (bk_ Bgl.out) hb); have n0_ := Aside0.mk (below_step (hb_ HB.out) hb); clear HB; have HB := n0_; clear n0_; clear Bgl; have Bgl := oBgl; clear oBgl; have Bgx := Aside0.mk (hbox); clear hb hbox hg; have hcgl0_w1 : w1.cell? ⟨gl, 0, none⟩ = some (.slice A0 l0.length c0) := (blk_cell Bgl.out 0).trans rfl; have hzgl0_w1 := blk_frozen Bgl.out 0; have hcgx0_w1 : w1.cell? ⟨gx, 0, none⟩ = some (.int .i64 a1) := (blk_cell Bgx.out 0).trans rfl; have hzgx0_w1 := blk_frozen Bgx.out 0) | (go_at_call 15; (with_reducible refine (impl_BusOk.calls k A0 c0 l0 true _ ?s1 ?s2 A1.out).mono ?_); (case s1 => exact Kd.C_below HR0.out (hb_ HB.out)); (case s2 => exact HC0.out); rintro e w2 ⟨rfl, hb⟩; have oBgl := Aside0.mk (blk_below (bk_ Bgl.out) hb); have oBgx := Aside0.mk (blk_below (bk_ Bgx.out) hb); have n0_ := Aside0.mk (below_step (hb_ HB.out) hb); clear HB; have HB := n0_; clear n0_; clear Bgl; have Bgl := oBgl; clear oBgl; clear Bgx; have Bgx := oBgx; clear oBgx; (try clear hb); have hcgl0_w2 : w2.cell? ⟨gl, 0, none⟩ = some (.slice A0 l0.length c0) := (blk_cell Bgl.out 0).trans rfl; have hzgl0_w2 := blk_frozen Bgl.out 0; have hcgx0_w2 : w2.cell? ⟨gx, 0, none⟩ = some (.int .i64 a1) := (blk_cell Bgx.out 0).trans rfl; have hzgx0_w2 := blk_frozen Bgx.out 0) | (go_at_call 50; (with_reducible refine (impl_places_Frame.calls k (fun x => impl_BusHeard_1.f k l0 a1 x) 51 #[.pointer (some ⟨gx, 0, none⟩), .pointer (some ⟨gl, 0, none⟩)] Try.f51 Try.func51 (by kernel_rfl) rfl A0 c0 l0 r _ ?hC ?s1 ?s2 H.out).mono ?_); (case hC => exact fun x b W hW hp => impl_BusHeard_1.calls k gx gl a1 A0 c0 l0 x b W (blk_below (bk_ Bgx.out) hW) (blk_below (bk_ Bgl.out) hW) (Kd.C_below (Kd.C_below HR0.out (hb_ HB.out)) hW) HC0.out hp); (case s1 => exact Kd.C_below HR0.out (hb_ HB.out)); (case s2 => exact HC0.out); rintro e w3 ⟨v0, rfl, ho, hb⟩; have HO := Aside0.mk (Kd.R_lower ho (below_size (hb_ HB.out))); have oBgl := Aside0.mk (blk_below (bk_ Bgl.out) hb); have oBgx := Aside0.mk (blk_below (bk_ Bgx.out) hb); have n0_ := Aside0.mk (below_step (hb_ HB.out) hb); clear HB; have HB := n0_; clear n0_; clear Bgl; have Bgl := oBgl; clear oBgl; clear Bgx; have Bgx := oBgx; clear oBgx; (try clear hb); (try clear ho)))
    go_ret
    exact ⟨_, rfl, (by (with_reducible repeat (first | apply Kd.R_alloc | apply Kd.R_drewN | apply Kd.R_drew)); exact HO.out), hb_ HB.out⟩
def spec_l1In.f (a0 : Int) (a1 : Int) (a2 : Int) : Option (Bool) := if a0 ≥ a1 then (some (decide (a0 ≤ a2))) else (some false)
set_option maxHeartbeats 8000000 in
set_option maxRecDepth 100000 in
theorem spec_l1In.calls (a0 : Int) (a1 : Int) (a2 : Int) (r : Bool) (w : World) (h : spec_l1In.f a0 a1 a2 = some r) :
    Calls Try.prog 76 #[.int .i64 a0, .int .i64 a1, .int .i64 a2] w fun e w' => e = .returned (.bool r) ∧ Drawn0 w w' := by
  have H : (if a0 ≥ a1 then (some (decide (a0 ≤ a2))) else (some false)) = some r := h
  clear h
  by_cases c4 : a0 ≥ a1
  · rw [if_pos c4] at H
    have c4b0 : decide (a1 ≤ a0) = true := decide_eq_true c4
    clear c4
    obtain rfl := Option.some.inj H
    go_enter Try.func76, Try.ntmps76
    go_wp2
    go_ret
    exact ⟨by first | rfl | (simp; done) | (simp [*]; done), by repeat (first | exact Drawn0.refl _ | apply Drawn0.step)⟩
  · rw [if_neg c4] at H
    have c4b0 : decide (a1 ≤ a0) = false := decide_eq_false c4
    clear c4
    obtain rfl := Option.some.inj H
    go_enter Try.func76, Try.ntmps76
    go_wp2
    go_ret
    exact ⟨by first | rfl | (simp; done) | (simp [*]; done), by repeat (first | exact Drawn0.refl _ | apply Drawn0.step)⟩
def spec_l4Node.f (a0 : Int) : Option (Bool) := (spec_l1In.f a0 0 7).bind fun t222 => (some t222)
set_option maxHeartbeats 8000000 in
set_option maxRecDepth 100000 in
theorem spec_l4Node.calls (a0 : Int) (r : Bool) (w : World) (h : spec_l4Node.f a0 = some r) :
    Calls Try.prog 77 #[.int .i64 a0] w fun e w' => e = .returned (.bool r) ∧ Drawn0 w w' := by
  have H : ((spec_l1In.f a0 0 7).bind fun t222 => (some t222)) = some r := h
  clear h
  replace H := Option.bind_eq_some_iff.mp H
  obtain ⟨t222, A20, H⟩ := H
  replace H : (some t222) = some r := H
  have A2 := Aside0.mk A20
  clear A20
  obtain rfl := Option.some.inj H
  go_enter Try.func77, Try.ntmps77
  go_wp2_with (first | ((with_reducible refine gate_callee (f := 76) rfl ?_); refine goesL_ (some 4) rfl rfl Try.func76 (by kernel_rfl) rfl #[.int .i64 a0, .int .i64 0, .int .i64 7] rfl arr_ ?_; (with_reducible refine (spec_l1In.calls a0 0 7 t222 _ A2.out).mono ?_); rintro e w' ⟨rfl, ⟨nd, rfl⟩⟩; refine ⟨_, rfl, ?_⟩))
  go_ret
  exact ⟨by first | rfl | (simp; done) | (simp [*]; done), by repeat (first | exact Drawn0.refl _ | apply Drawn0.step)⟩
def spec_FrameOk.f (a0_0 : Int) (a0_1 : Int) (a0_2 : Int) (a0_3 : Int) (a0_4 : Int) (a0_5 : ByteArray) : Option (Bool) := (spec_l4Node.f a0_0).bind fun t224 => (if t224 = true then ((spec_l1In.f a0_1 0 15).bind fun t225 => (if t225 = true then ((spec_l1In.f a0_2 0 1000000000000).bind fun t226 => (if t226 = true then (if a0_3 ≥ 0 then (if a0_3 < a0_4 then (if a0_4 ≤ 1000000000000 then (some (decide ((a0_5.size : Int) ≤ 24))) else (some false)) else (some false)) else (some false)) else (some false))) else (some false))) else (some false))
set_option maxHeartbeats 8000000 in
set_option maxRecDepth 100000 in
theorem spec_FrameOk.calls (a0_0 : Int) (a0_1 : Int) (a0_2 : Int) (a0_3 : Int) (a0_4 : Int) (a0_5 : ByteArray) (r : Bool) (w : World) (h : spec_FrameOk.f a0_0 a0_1 a0_2 a0_3 a0_4 a0_5 = some r) :
    Calls Try.prog 55 #[.agg #[.int .i64 a0_0, .int .i64 a0_1, .int .i64 a0_2, .int .i64 a0_3, .int .i64 a0_4, .string a0_5]] w fun e w' => e = .returned (.bool r) ∧ Below w.heap.size w w' := by
  have hu33 := Try.underlying33
  have HB := Aside0.mk (Below.refl w.heap.size w)
  have H : ((spec_l4Node.f a0_0).bind fun t224 => (if t224 = true then ((spec_l1In.f a0_1 0 15).bind fun t225 => (if t225 = true then ((spec_l1In.f a0_2 0 1000000000000).bind fun t226 => (if t226 = true then (if a0_3 ≥ 0 then (if a0_3 < a0_4 then (if a0_4 ≤ 1000000000000 then (some (decide ((a0_5.size : Int) ≤ 24))) else (some false)) else (some false)) else (some false)) else (some false))) else (some false))) else (some false))) = some r := h
  clear h
  replace H := Option.bind_eq_some_iff.mp H
  obtain ⟨t224, A20, H⟩ := H
  replace H : (if t224 = true then ((spec_l1In.f a0_1 0 15).bind fun t225 => (if t225 = true then ((spec_l1In.f a0_2 0 1000000000000).bind fun t226 => (if t226 = true then (if a0_3 ≥ 0 then (if a0_3 < a0_4 then (if a0_4 ≤ 1000000000000 then (some (decide ((a0_5.size : Int) ≤ 24))) else (some false)) else (some false)) else (some false)) else (some false))) else (some false))) else (some false)) = some r := H
  have A2 := Aside0.mk A20
  clear A20
  by_cases c3 : t224 = true
  · subst c3
    have H1 : ((spec_l1In.f a0_1 0 15).bind fun t225 => (if t225 = true then ((spec_l1In.f a0_2 0 1000000000000).bind fun t226 => (if t226 = true then (if a0_3 ≥ 0 then (if a0_3 < a0_4 then (if a0_4 ≤ 1000000000000 then (some (decide ((a0_5.size : Int) ≤ 24))) else (some false)) else (some false)) else (some false)) else (some false))) else (some false))) = some r := by rw [if_pos rfl] at H; exact H
    clear H
    have H := H1
    clear H1
    replace H := Option.bind_eq_some_iff.mp H
    obtain ⟨t225, A40, H⟩ := H
    replace H : (if t225 = true then ((spec_l1In.f a0_2 0 1000000000000).bind fun t226 => (if t226 = true then (if a0_3 ≥ 0 then (if a0_3 < a0_4 then (if a0_4 ≤ 1000000000000 then (some (decide ((a0_5.size : Int) ≤ 24))) else (some false)) else (some false)) else (some false)) else (some false))) else (some false)) = some r := H
    have A4 := Aside0.mk A40
    clear A40
    by_cases c5 : t225 = true
    · subst c5
      have H1 : ((spec_l1In.f a0_2 0 1000000000000).bind fun t226 => (if t226 = true then (if a0_3 ≥ 0 then (if a0_3 < a0_4 then (if a0_4 ≤ 1000000000000 then (some (decide ((a0_5.size : Int) ≤ 24))) else (some false)) else (some false)) else (some false)) else (some false))) = some r := by rw [if_pos rfl] at H; exact H
      clear H
      have H := H1
      clear H1
      replace H := Option.bind_eq_some_iff.mp H
      obtain ⟨t226, A60, H⟩ := H
      replace H : (if t226 = true then (if a0_3 ≥ 0 then (if a0_3 < a0_4 then (if a0_4 ≤ 1000000000000 then (some (decide ((a0_5.size : Int) ≤ 24))) else (some false)) else (some false)) else (some false)) else (some false)) = some r := H
      have A6 := Aside0.mk A60
      clear A60
      by_cases c7 : t226 = true
      · subst c7
        have H1 : (if a0_3 ≥ 0 then (if a0_3 < a0_4 then (if a0_4 ≤ 1000000000000 then (some (decide ((a0_5.size : Int) ≤ 24))) else (some false)) else (some false)) else (some false)) = some r := by rw [if_pos rfl] at H; exact H
        clear H
        have H := H1
        clear H1
        by_cases c8 : a0_3 ≥ 0
        · rw [if_pos c8] at H
          have c8b0 : decide (0 ≤ a0_3) = true := decide_eq_true c8
          clear c8
          by_cases c9 : a0_3 < a0_4
          · rw [if_pos c9] at H
            have c9b0 : decide (a0_3 < a0_4) = true := decide_eq_true c9
            clear c9
            by_cases c10 : a0_4 ≤ 1000000000000
            · rw [if_pos c10] at H
              have c10b0 : decide (a0_4 ≤ 1000000000000) = true := decide_eq_true c10
              clear c10
              obtain rfl := Option.some.inj H
              go_enter Try.func55, Try.ntmps55
              go_wp2_with (first | ((with_reducible refine gate_dst (N := 1) rfl ?_); (try (refine gate_guard (by rfl) ?_; dsimp only)); refine box_event ?hg (N := 1) ?hd (cs := #[.int .i64 a0_0, .int .i64 a0_1, .int .i64 a0_2, .int .i64 a0_3, .int .i64 a0_4, .string a0_5]) (t := 33) ?hr ?_; (case hd => rfl); (case hg => rfl); (case hr => first | (go_simp; done) | (go_simp; rfl)); intro gb223 hg w11 hbox hb; have n0_ := Aside0.mk (below_step (hb_ HB.out) hb); have n1_ := Aside0.mk (hbox); have n2_ := Aside0.mk ((by rw [hg]; exact (below_size (hb_ HB.out)) : w.heap.size ≤ gb223)); have n3_ := Aside0.mk ((by rw [hg]; exact (below_size (hb_ HB.out)) : w.heap.size ≤ gb223)); clear HB; have HB := n0_; have BK223 := n1_; have GW223 := n2_; have GE223 := n3_; clear n0_ n1_ n2_ n3_; clear hb hbox hg; have hcz12_0 := bc_ BK223.out 0 (.int .i64 a0_0) rfl; have hcz12_1 := bc_ BK223.out 1 (.int .i64 a0_1) rfl; have hcz12_2 := bc_ BK223.out 2 (.int .i64 a0_2) rfl; have hcz12_3 := bc_ BK223.out 3 (.int .i64 a0_3) rfl; have hcz12_4 := bc_ BK223.out 4 (.int .i64 a0_4) rfl; have hcz12_5 := bc_ BK223.out 5 (.string a0_5) rfl; have hfz12_0 := blk_frozen BK223.out 0; have hfz12_1 := blk_frozen BK223.out 1; have hfz12_2 := blk_frozen BK223.out 2; have hfz12_3 := blk_frozen BK223.out 3; have hfz12_4 := blk_frozen BK223.out 4; have hfz12_5 := blk_frozen BK223.out 5) | ((with_reducible refine gate_callee (f := 77) rfl ?_); refine goesL_ (some 5) rfl rfl Try.func77 (by kernel_rfl) rfl #[.int .i64 a0_0] rfl arr_ ?_; (with_reducible refine (spec_l4Node.calls a0_0 true _ A2.out).mono ?_); rintro e w' ⟨rfl, ⟨nd, rfl⟩⟩; refine ⟨_, rfl, ?_⟩) | (go_at_call 76; (with_reducible refine (spec_l1In.calls a0_1 0 15 true _ A4.out).mono ?_); rintro e w' ⟨rfl, ⟨nd, rfl⟩⟩) | (go_at_call 76; (with_reducible refine (spec_l1In.calls a0_2 0 1000000000000 true _ A6.out).mono ?_); rintro e w' ⟨rfl, ⟨nd, rfl⟩⟩))
              go_ret
              exact ⟨er_, hb1_ HB.out GE223.out⟩
            · rw [if_neg c10] at H
              have c10b0 : decide (a0_4 ≤ 1000000000000) = false := decide_eq_false c10
              clear c10
              obtain rfl := Option.some.inj H
              go_enter Try.func55, Try.ntmps55
              go_wp2_with (first | ((with_reducible refine gate_dst (N := 1) rfl ?_); (try (refine gate_guard (by rfl) ?_; dsimp only)); refine box_event ?hg (N := 1) ?hd (cs := #[.int .i64 a0_0, .int .i64 a0_1, .int .i64 a0_2, .int .i64 a0_3, .int .i64 a0_4, .string a0_5]) (t := 33) ?hr ?_; (case hd => rfl); (case hg => rfl); (case hr => first | (go_simp; done) | (go_simp; rfl)); intro gb223 hg w13 hbox hb; have n0_ := Aside0.mk (below_step (hb_ HB.out) hb); have n1_ := Aside0.mk (hbox); have n2_ := Aside0.mk ((by rw [hg]; exact (below_size (hb_ HB.out)) : w.heap.size ≤ gb223)); have n3_ := Aside0.mk ((by rw [hg]; exact (below_size (hb_ HB.out)) : w.heap.size ≤ gb223)); clear HB; have HB := n0_; have BK223 := n1_; have GW223 := n2_; have GE223 := n3_; clear n0_ n1_ n2_ n3_; clear hb hbox hg; have hcz14_0 := bc_ BK223.out 0 (.int .i64 a0_0) rfl; have hcz14_1 := bc_ BK223.out 1 (.int .i64 a0_1) rfl; have hcz14_2 := bc_ BK223.out 2 (.int .i64 a0_2) rfl; have hcz14_3 := bc_ BK223.out 3 (.int .i64 a0_3) rfl; have hcz14_4 := bc_ BK223.out 4 (.int .i64 a0_4) rfl; have hcz14_5 := bc_ BK223.out 5 (.string a0_5) rfl; have hfz14_0 := blk_frozen BK223.out 0; have hfz14_1 := blk_frozen BK223.out 1; have hfz14_2 := blk_frozen BK223.out 2; have hfz14_3 := blk_frozen BK223.out 3; have hfz14_4 := blk_frozen BK223.out 4; have hfz14_5 := blk_frozen BK223.out 5) | ((with_reducible refine gate_callee (f := 77) rfl ?_); refine goesL_ (some 5) rfl rfl Try.func77 (by kernel_rfl) rfl #[.int .i64 a0_0] rfl arr_ ?_; (with_reducible refine (spec_l4Node.calls a0_0 true _ A2.out).mono ?_); rintro e w' ⟨rfl, ⟨nd, rfl⟩⟩; refine ⟨_, rfl, ?_⟩) | (go_at_call 76; (with_reducible refine (spec_l1In.calls a0_1 0 15 true _ A4.out).mono ?_); rintro e w' ⟨rfl, ⟨nd, rfl⟩⟩) | (go_at_call 76; (with_reducible refine (spec_l1In.calls a0_2 0 1000000000000 true _ A6.out).mono ?_); rintro e w' ⟨rfl, ⟨nd, rfl⟩⟩))
              go_ret
              exact ⟨er_, hb1_ HB.out GE223.out⟩
          · rw [if_neg c9] at H
            have c9b0 : decide (a0_3 < a0_4) = false := decide_eq_false c9
            clear c9
            obtain rfl := Option.some.inj H
            go_enter Try.func55, Try.ntmps55
            go_wp2_with (first | ((with_reducible refine gate_dst (N := 1) rfl ?_); (try (refine gate_guard (by rfl) ?_; dsimp only)); refine box_event ?hg (N := 1) ?hd (cs := #[.int .i64 a0_0, .int .i64 a0_1, .int .i64 a0_2, .int .i64 a0_3, .int .i64 a0_4, .string a0_5]) (t := 33) ?hr ?_; (case hd => rfl); (case hg => rfl); (case hr => first | (go_simp; done) | (go_simp; rfl)); intro gb223 hg w15 hbox hb; have n0_ := Aside0.mk (below_step (hb_ HB.out) hb); have n1_ := Aside0.mk (hbox); have n2_ := Aside0.mk ((by rw [hg]; exact (below_size (hb_ HB.out)) : w.heap.size ≤ gb223)); have n3_ := Aside0.mk ((by rw [hg]; exact (below_size (hb_ HB.out)) : w.heap.size ≤ gb223)); clear HB; have HB := n0_; have BK223 := n1_; have GW223 := n2_; have GE223 := n3_; clear n0_ n1_ n2_ n3_; clear hb hbox hg; have hcz16_0 := bc_ BK223.out 0 (.int .i64 a0_0) rfl; have hcz16_1 := bc_ BK223.out 1 (.int .i64 a0_1) rfl; have hcz16_2 := bc_ BK223.out 2 (.int .i64 a0_2) rfl; have hcz16_3 := bc_ BK223.out 3 (.int .i64 a0_3) rfl; have hcz16_4 := bc_ BK223.out 4 (.int .i64 a0_4) rfl; have hcz16_5 := bc_ BK223.out 5 (.string a0_5) rfl; have hfz16_0 := blk_frozen BK223.out 0; have hfz16_1 := blk_frozen BK223.out 1; have hfz16_2 := blk_frozen BK223.out 2; have hfz16_3 := blk_frozen BK223.out 3; have hfz16_4 := blk_frozen BK223.out 4; have hfz16_5 := blk_frozen BK223.out 5) | ((with_reducible refine gate_callee (f := 77) rfl ?_); refine goesL_ (some 5) rfl rfl Try.func77 (by kernel_rfl) rfl #[.int .i64 a0_0] rfl arr_ ?_; (with_reducible refine (spec_l4Node.calls a0_0 true _ A2.out).mono ?_); rintro e w' ⟨rfl, ⟨nd, rfl⟩⟩; refine ⟨_, rfl, ?_⟩) | (go_at_call 76; (with_reducible refine (spec_l1In.calls a0_1 0 15 true _ A4.out).mono ?_); rintro e w' ⟨rfl, ⟨nd, rfl⟩⟩) | (go_at_call 76; (with_reducible refine (spec_l1In.calls a0_2 0 1000000000000 true _ A6.out).mono ?_); rintro e w' ⟨rfl, ⟨nd, rfl⟩⟩))
            go_ret
            exact ⟨er_, hb1_ HB.out GE223.out⟩
        · rw [if_neg c8] at H
          have c8b0 : decide (0 ≤ a0_3) = false := decide_eq_false c8
          clear c8
          obtain rfl := Option.some.inj H
          go_enter Try.func55, Try.ntmps55
          go_wp2_with (first | ((with_reducible refine gate_dst (N := 1) rfl ?_); (try (refine gate_guard (by rfl) ?_; dsimp only)); refine box_event ?hg (N := 1) ?hd (cs := #[.int .i64 a0_0, .int .i64 a0_1, .int .i64 a0_2, .int .i64 a0_3, .int .i64 a0_4, .string a0_5]) (t := 33) ?hr ?_; (case hd => rfl); (case hg => rfl); (case hr => first | (go_simp; done) | (go_simp; rfl)); intro gb223 hg w17 hbox hb; have n0_ := Aside0.mk (below_step (hb_ HB.out) hb); have n1_ := Aside0.mk (hbox); have n2_ := Aside0.mk ((by rw [hg]; exact (below_size (hb_ HB.out)) : w.heap.size ≤ gb223)); have n3_ := Aside0.mk ((by rw [hg]; exact (below_size (hb_ HB.out)) : w.heap.size ≤ gb223)); clear HB; have HB := n0_; have BK223 := n1_; have GW223 := n2_; have GE223 := n3_; clear n0_ n1_ n2_ n3_; clear hb hbox hg; have hcz18_0 := bc_ BK223.out 0 (.int .i64 a0_0) rfl; have hcz18_1 := bc_ BK223.out 1 (.int .i64 a0_1) rfl; have hcz18_2 := bc_ BK223.out 2 (.int .i64 a0_2) rfl; have hcz18_3 := bc_ BK223.out 3 (.int .i64 a0_3) rfl; have hcz18_4 := bc_ BK223.out 4 (.int .i64 a0_4) rfl; have hcz18_5 := bc_ BK223.out 5 (.string a0_5) rfl; have hfz18_0 := blk_frozen BK223.out 0; have hfz18_1 := blk_frozen BK223.out 1; have hfz18_2 := blk_frozen BK223.out 2; have hfz18_3 := blk_frozen BK223.out 3; have hfz18_4 := blk_frozen BK223.out 4; have hfz18_5 := blk_frozen BK223.out 5) | ((with_reducible refine gate_callee (f := 77) rfl ?_); refine goesL_ (some 5) rfl rfl Try.func77 (by kernel_rfl) rfl #[.int .i64 a0_0] rfl arr_ ?_; (with_reducible refine (spec_l4Node.calls a0_0 true _ A2.out).mono ?_); rintro e w' ⟨rfl, ⟨nd, rfl⟩⟩; refine ⟨_, rfl, ?_⟩) | (go_at_call 76; (with_reducible refine (spec_l1In.calls a0_1 0 15 true _ A4.out).mono ?_); rintro e w' ⟨rfl, ⟨nd, rfl⟩⟩) | (go_at_call 76; (with_reducible refine (spec_l1In.calls a0_2 0 1000000000000 true _ A6.out).mono ?_); rintro e w' ⟨rfl, ⟨nd, rfl⟩⟩))
          go_ret
          exact ⟨er_, hb1_ HB.out GE223.out⟩
      · replace c7 := Bool.eq_false_iff.mpr c7
        subst c7
        have H1 : (some false) = some r := by rw [if_neg (show ¬ (false = true) by decide)] at H; exact H
        clear H
        have H := H1
        clear H1
        obtain rfl := Option.some.inj H
        go_enter Try.func55, Try.ntmps55
        go_wp2_with (first | ((with_reducible refine gate_dst (N := 1) rfl ?_); (try (refine gate_guard (by rfl) ?_; dsimp only)); refine box_event ?hg (N := 1) ?hd (cs := #[.int .i64 a0_0, .int .i64 a0_1, .int .i64 a0_2, .int .i64 a0_3, .int .i64 a0_4, .string a0_5]) (t := 33) ?hr ?_; (case hd => rfl); (case hg => rfl); (case hr => first | (go_simp; done) | (go_simp; rfl)); intro gb223 hg w19 hbox hb; have n0_ := Aside0.mk (below_step (hb_ HB.out) hb); have n1_ := Aside0.mk (hbox); have n2_ := Aside0.mk ((by rw [hg]; exact (below_size (hb_ HB.out)) : w.heap.size ≤ gb223)); have n3_ := Aside0.mk ((by rw [hg]; exact (below_size (hb_ HB.out)) : w.heap.size ≤ gb223)); clear HB; have HB := n0_; have BK223 := n1_; have GW223 := n2_; have GE223 := n3_; clear n0_ n1_ n2_ n3_; clear hb hbox hg; have hcz20_0 := bc_ BK223.out 0 (.int .i64 a0_0) rfl; have hcz20_1 := bc_ BK223.out 1 (.int .i64 a0_1) rfl; have hcz20_2 := bc_ BK223.out 2 (.int .i64 a0_2) rfl; have hcz20_3 := bc_ BK223.out 3 (.int .i64 a0_3) rfl; have hcz20_4 := bc_ BK223.out 4 (.int .i64 a0_4) rfl; have hcz20_5 := bc_ BK223.out 5 (.string a0_5) rfl; have hfz20_0 := blk_frozen BK223.out 0; have hfz20_1 := blk_frozen BK223.out 1; have hfz20_2 := blk_frozen BK223.out 2; have hfz20_3 := blk_frozen BK223.out 3; have hfz20_4 := blk_frozen BK223.out 4; have hfz20_5 := blk_frozen BK223.out 5) | ((with_reducible refine gate_callee (f := 77) rfl ?_); refine goesL_ (some 5) rfl rfl Try.func77 (by kernel_rfl) rfl #[.int .i64 a0_0] rfl arr_ ?_; (with_reducible refine (spec_l4Node.calls a0_0 true _ A2.out).mono ?_); rintro e w' ⟨rfl, ⟨nd, rfl⟩⟩; refine ⟨_, rfl, ?_⟩) | (go_at_call 76; (with_reducible refine (spec_l1In.calls a0_1 0 15 true _ A4.out).mono ?_); rintro e w' ⟨rfl, ⟨nd, rfl⟩⟩) | (go_at_call 76; (with_reducible refine (spec_l1In.calls a0_2 0 1000000000000 false _ A6.out).mono ?_); rintro e w' ⟨rfl, ⟨nd, rfl⟩⟩))
        go_ret
        exact ⟨er_, hb1_ HB.out GE223.out⟩
    · replace c5 := Bool.eq_false_iff.mpr c5
      subst c5
      have H1 : (some false) = some r := by rw [if_neg (show ¬ (false = true) by decide)] at H; exact H
      clear H
      have H := H1
      clear H1
      obtain rfl := Option.some.inj H
      go_enter Try.func55, Try.ntmps55
      go_wp2_with (first | ((with_reducible refine gate_dst (N := 1) rfl ?_); (try (refine gate_guard (by rfl) ?_; dsimp only)); refine box_event ?hg (N := 1) ?hd (cs := #[.int .i64 a0_0, .int .i64 a0_1, .int .i64 a0_2, .int .i64 a0_3, .int .i64 a0_4, .string a0_5]) (t := 33) ?hr ?_; (case hd => rfl); (case hg => rfl); (case hr => first | (go_simp; done) | (go_simp; rfl)); intro gb223 hg w21 hbox hb; have n0_ := Aside0.mk (below_step (hb_ HB.out) hb); have n1_ := Aside0.mk (hbox); have n2_ := Aside0.mk ((by rw [hg]; exact (below_size (hb_ HB.out)) : w.heap.size ≤ gb223)); have n3_ := Aside0.mk ((by rw [hg]; exact (below_size (hb_ HB.out)) : w.heap.size ≤ gb223)); clear HB; have HB := n0_; have BK223 := n1_; have GW223 := n2_; have GE223 := n3_; clear n0_ n1_ n2_ n3_; clear hb hbox hg; have hcz22_0 := bc_ BK223.out 0 (.int .i64 a0_0) rfl; have hcz22_1 := bc_ BK223.out 1 (.int .i64 a0_1) rfl; have hcz22_2 := bc_ BK223.out 2 (.int .i64 a0_2) rfl; have hcz22_3 := bc_ BK223.out 3 (.int .i64 a0_3) rfl; have hcz22_4 := bc_ BK223.out 4 (.int .i64 a0_4) rfl; have hcz22_5 := bc_ BK223.out 5 (.string a0_5) rfl; have hfz22_0 := blk_frozen BK223.out 0; have hfz22_1 := blk_frozen BK223.out 1; have hfz22_2 := blk_frozen BK223.out 2; have hfz22_3 := blk_frozen BK223.out 3; have hfz22_4 := blk_frozen BK223.out 4; have hfz22_5 := blk_frozen BK223.out 5) | ((with_reducible refine gate_callee (f := 77) rfl ?_); refine goesL_ (some 5) rfl rfl Try.func77 (by kernel_rfl) rfl #[.int .i64 a0_0] rfl arr_ ?_; (with_reducible refine (spec_l4Node.calls a0_0 true _ A2.out).mono ?_); rintro e w' ⟨rfl, ⟨nd, rfl⟩⟩; refine ⟨_, rfl, ?_⟩) | (go_at_call 76; (with_reducible refine (spec_l1In.calls a0_1 0 15 false _ A4.out).mono ?_); rintro e w' ⟨rfl, ⟨nd, rfl⟩⟩))
      go_ret
      exact ⟨er_, hb1_ HB.out GE223.out⟩
  · replace c3 := Bool.eq_false_iff.mpr c3
    subst c3
    have H1 : (some false) = some r := by rw [if_neg (show ¬ (false = true) by decide)] at H; exact H
    clear H
    have H := H1
    clear H1
    obtain rfl := Option.some.inj H
    go_enter Try.func55, Try.ntmps55
    go_wp2_with (first | ((with_reducible refine gate_dst (N := 1) rfl ?_); (try (refine gate_guard (by rfl) ?_; dsimp only)); refine box_event ?hg (N := 1) ?hd (cs := #[.int .i64 a0_0, .int .i64 a0_1, .int .i64 a0_2, .int .i64 a0_3, .int .i64 a0_4, .string a0_5]) (t := 33) ?hr ?_; (case hd => rfl); (case hg => rfl); (case hr => first | (go_simp; done) | (go_simp; rfl)); intro gb223 hg w23 hbox hb; have n0_ := Aside0.mk (below_step (hb_ HB.out) hb); have n1_ := Aside0.mk (hbox); have n2_ := Aside0.mk ((by rw [hg]; exact (below_size (hb_ HB.out)) : w.heap.size ≤ gb223)); have n3_ := Aside0.mk ((by rw [hg]; exact (below_size (hb_ HB.out)) : w.heap.size ≤ gb223)); clear HB; have HB := n0_; have BK223 := n1_; have GW223 := n2_; have GE223 := n3_; clear n0_ n1_ n2_ n3_; clear hb hbox hg; have hcz24_0 := bc_ BK223.out 0 (.int .i64 a0_0) rfl; have hcz24_1 := bc_ BK223.out 1 (.int .i64 a0_1) rfl; have hcz24_2 := bc_ BK223.out 2 (.int .i64 a0_2) rfl; have hcz24_3 := bc_ BK223.out 3 (.int .i64 a0_3) rfl; have hcz24_4 := bc_ BK223.out 4 (.int .i64 a0_4) rfl; have hcz24_5 := bc_ BK223.out 5 (.string a0_5) rfl; have hfz24_0 := blk_frozen BK223.out 0; have hfz24_1 := blk_frozen BK223.out 1; have hfz24_2 := blk_frozen BK223.out 2; have hfz24_3 := blk_frozen BK223.out 3; have hfz24_4 := blk_frozen BK223.out 4; have hfz24_5 := blk_frozen BK223.out 5) | ((with_reducible refine gate_callee (f := 77) rfl ?_); refine goesL_ (some 5) rfl rfl Try.func77 (by kernel_rfl) rfl #[.int .i64 a0_0] rfl arr_ ?_; (with_reducible refine (spec_l4Node.calls a0_0 false _ A2.out).mono ?_); rintro e w' ⟨rfl, ⟨nd, rfl⟩⟩; refine ⟨_, rfl, ?_⟩))
    go_ret
    exact ⟨er_, hb1_ HB.out GE223.out⟩
end Go.Proofs.Ytjlmfnpgcmmdnaa.P
