/- Texts of the seat's proofs, part 8: functions of the program told as plain functions, with their contracts, and what is shown of them. No condition. -/
import Derived.Test.YtejohmompmjhnaaUKFEGW
import Derived.Test.YtejohmompmjhnaaKFEGW1
import Derived.Test.YtejohmompmjhnaaKFEGW6
import Derived.Test.YtejohmompmjhnaaKFEGW4
import Derived.Test.YtejohmompmjhnaaKFEGW7
import Derived.Test.YtejohmompmjhnaaKFEGW2
import Derived.Test.YtejohmompmjhnaaKFEGW5
import Derived.Test.YtejohmompmjhnaaKFEGW3
set_option linter.unusedVariables false
set_option linter.unusedSimpArgs false
namespace Go.Proofs.Ytejohmompmjhnaa.P
open Go.RowKit Go.Proofs.YtejohmompmjhnaaW.PrintWords Go.Proofs.YtejohmompmjhnaaW.PrintLast Go.Proofs.YtejohmompmjhnaaW.PrintMore
attribute [local go_sem] max2_int min2_int max_two min_two max_three min_three max_four min_four
set_option linter.unusedVariables false
set_option linter.unusedSimpArgs false
mutual
def impl_GateWait.j0 : Nat → Int → Int → Int → Int → Bool → Bool → Int → Int → Int → Int → Int → Int → Int → List (S55) → Option (Int × Bool)
  | 0, _, _, _, _, _, _, _, _, _, _, _, _, _, _ => none
  | k + 1, x2, x4, x5, x6, x29, x813000, x813001, x813002, x813003, x814000, x814001, x815000, x815001, x815002 => if x29 = true then (some (0, false)) else (impl_GateWait.l0 k x2 x4 x5 (wrap64 (x6 + 1)) 0 x813000 x813001 x813002 x813003 x814000 x814001 x815000 x815001 x815002)
def impl_GateWait.l0 : Nat → Int → Int → Int → Int → Int → Bool → Int → Int → Int → Int → Int → Int → Int → List (S55) → Option (Int × Bool)
  | 0, _, _, _, _, _, _, _, _, _, _, _, _, _, _ => none
  | k + 1, x2, x4, x5, x31, x32, x813000, x813001, x813002, x813003, x814000, x814001, x815000, x815001, x815002 => if x32 < x31 then ((impl_CarryOn.f k x813000 x813001 x813002 x813003 x814000 x814001 (wrap64 (x5 + x32))).bind fun bt817 => (if bt817.2.2 = 0 then ((impl_GateAsk.f k bt817.1 bt817.2.1 true x814000 x814001 x2 x815000 x815001 x815002 x4).bind fun bt821 => (if bt821.2.2 = 0 then (some (x32, true)) else (impl_GateWait.l0 k x2 x4 x5 x31 (wrap64 (x32 + 1)) x813000 x813001 x813002 x813003 x814000 x814001 x815000 x815001 x815002))) else (impl_GateWait.l0 k x2 x4 x5 x31 (wrap64 (x32 + 1)) x813000 x813001 x813002 x813003 x814000 x814001 x815000 x815001 x815002))) else (some (0, false))
end
def impl_GateWait.f (k : Nat) (a0_0 : Bool) (a0_1 : Int) (a0_2 : Int) (a0_3 : Int) (a1_0 : Int) (a1_1 : Int) (a2 : Int) (a3_0 : Int) (a3_1 : Int) (l3_2 : List (S55)) (a4 : Int) (a5 : Int) (a6 : Int) : Option (Int × Bool) := (impl_isTime.f a5).bind fun t815 => (if t815 = true then ((impl_in.f a6 0 400).bind fun t816 => (impl_GateWait.j0 k a2 a4 a5 a6 (!t816) a0_0 a0_1 a0_2 a0_3 a1_0 a1_1 a3_0 a3_1 l3_2)) else (impl_GateWait.j0 k a2 a4 a5 a6 true a0_0 a0_1 a0_2 a0_3 a1_0 a1_1 a3_0 a3_1 l3_2))
theorem impl_GateWait.mono_l : ∀ k, (∀ y0 y1 y2 y3 y4 y5 y6 y7 y8 y9 y10 y11 y12 y13, LeO (impl_GateWait.j0 k y0 y1 y2 y3 y4 y5 y6 y7 y8 y9 y10 y11 y12 y13) (impl_GateWait.j0 (k + 1) y0 y1 y2 y3 y4 y5 y6 y7 y8 y9 y10 y11 y12 y13)) ∧ (∀ y0 y1 y2 y3 y4 y5 y6 y7 y8 y9 y10 y11 y12 y13, LeO (impl_GateWait.l0 k y0 y1 y2 y3 y4 y5 y6 y7 y8 y9 y10 y11 y12 y13) (impl_GateWait.l0 (k + 1) y0 y1 y2 y3 y4 y5 y6 y7 y8 y9 y10 y11 y12 y13))
  | 0 => ⟨fun _ _ _ _ _ _ _ _ _ _ _ _ _ _ r h => by simp [impl_GateWait.j0] at h, fun _ _ _ _ _ _ _ _ _ _ _ _ _ _ r h => by simp [impl_GateWait.l0] at h⟩
  | k + 1 => by
    obtain ⟨ih0, ih1⟩ := impl_GateWait.mono_l k
    refine ⟨?_, ?_⟩
    · intro y0 y1 y2 y3 y4 y5 y6 y7 y8 y9 y10 y11 y12 y13
      unfold impl_GateWait.j0
      repeat' first
      | (with_reducible exact ih0 _ _ _ _ _ _ _ _ _ _ _ _ _ _)
      | (with_reducible exact ih1 _ _ _ _ _ _ _ _ _ _ _ _ _ _)
      | (with_reducible exact impl_CarryOn.mono _ _ _ _ _ _ _ _)
      | (with_reducible exact impl_GateAsk.mono _ _ _ _ _ _ _ _ _ _ _)
      | (with_reducible exact LeO.refl _)
      | (with_reducible exact LeO.none _)
      | (with_reducible refine LeO.ite ?_ ?_)
      | (with_reducible refine LeO.bind ?_ (fun _ => ?_))
      | exact ih0 _ _ _ _ _ _ _ _ _ _ _ _ _ _
      | exact ih1 _ _ _ _ _ _ _ _ _ _ _ _ _ _
      | exact impl_CarryOn.mono _ _ _ _ _ _ _ _
      | exact impl_GateAsk.mono _ _ _ _ _ _ _ _ _ _ _
      | exact LeO.none _
      | refine LeO.ite ?_ ?_
      | refine LeO.bind ?_ (fun _ => ?_)
    · intro y0 y1 y2 y3 y4 y5 y6 y7 y8 y9 y10 y11 y12 y13
      unfold impl_GateWait.l0
      repeat' first
      | (with_reducible exact ih0 _ _ _ _ _ _ _ _ _ _ _ _ _ _)
      | (with_reducible exact ih1 _ _ _ _ _ _ _ _ _ _ _ _ _ _)
      | (with_reducible exact impl_CarryOn.mono _ _ _ _ _ _ _ _)
      | (with_reducible exact impl_GateAsk.mono _ _ _ _ _ _ _ _ _ _ _)
      | (with_reducible exact LeO.refl _)
      | (with_reducible exact LeO.none _)
      | (with_reducible refine LeO.ite ?_ ?_)
      | (with_reducible refine LeO.bind ?_ (fun _ => ?_))
      | exact ih0 _ _ _ _ _ _ _ _ _ _ _ _ _ _
      | exact ih1 _ _ _ _ _ _ _ _ _ _ _ _ _ _
      | exact impl_CarryOn.mono _ _ _ _ _ _ _ _
      | exact impl_GateAsk.mono _ _ _ _ _ _ _ _ _ _ _
      | exact LeO.none _
      | refine LeO.ite ?_ ?_
      | refine LeO.bind ?_ (fun _ => ?_)
theorem impl_GateWait.mono : ∀ a0 a1 a2 a3 a4 a5 a6 a7 a8 a9 a10 a11 a12 k, LeO (impl_GateWait.f k a0 a1 a2 a3 a4 a5 a6 a7 a8 a9 a10 a11 a12) (impl_GateWait.f (k + 1) a0 a1 a2 a3 a4 a5 a6 a7 a8 a9 a10 a11 a12) := by
  intro a0 a1 a2 a3 a4 a5 a6 a7 a8 a9 a10 a11 a12 k
  obtain ⟨ih0, ih1⟩ := impl_GateWait.mono_l k
  unfold impl_GateWait.f
  repeat' first
      | (with_reducible exact ih0 _ _ _ _ _ _ _ _ _ _ _ _ _ _)
      | (with_reducible exact ih1 _ _ _ _ _ _ _ _ _ _ _ _ _ _)
      | (with_reducible exact impl_CarryOn.mono _ _ _ _ _ _ _ _)
      | (with_reducible exact impl_GateAsk.mono _ _ _ _ _ _ _ _ _ _ _)
      | (with_reducible exact LeO.refl _)
      | (with_reducible exact LeO.none _)
      | (with_reducible refine LeO.ite ?_ ?_)
      | (with_reducible refine LeO.bind ?_ (fun _ => ?_))
      | exact ih0 _ _ _ _ _ _ _ _ _ _ _ _ _ _
      | exact ih1 _ _ _ _ _ _ _ _ _ _ _ _ _ _
      | exact impl_CarryOn.mono _ _ _ _ _ _ _ _
      | exact impl_GateAsk.mono _ _ _ _ _ _ _ _ _ _ _
      | exact LeO.none _
      | refine LeO.ite ?_ ?_
      | refine LeO.bind ?_ (fun _ => ?_)
set_option maxHeartbeats 8000000 in
set_option maxRecDepth 100000 in
theorem impl_GateWait.calls (k : Nat) (a0_0 : Bool) (a0_1 : Int) (a0_2 : Int) (a0_3 : Int) (a1_0 : Int) (a1_1 : Int) (a2 : Int) (a3_0 : Int) (a3_1 : Int) (A3_2 : Option Addr) (c3_2 : Nat) (l3_2 : List (S55)) (a4 : Int) (a5 : Int) (a6 : Int) (r1 : Int) (r2 : Bool) (w : World) (hr3_2 : Kd.C k55 w A3_2 l3_2.length l3_2) (hc3_2 : l3_2.length ≤ c3_2) (h : impl_GateWait.f k a0_0 a0_1 a0_2 a0_3 a1_0 a1_1 a2 a3_0 a3_1 l3_2 a4 a5 a6 = some (r1, r2)) :
    Calls Try.prog 30 #[.agg #[.bool a0_0, .int .i64 a0_1, .int .i64 a0_2, .int .i64 a0_3], .agg #[.int .i64 a1_0, .int .i64 a1_1], .int .i64 a2, .agg #[.int .i64 a3_0, .int .i64 a3_1, .slice A3_2 l3_2.length c3_2], .int .i64 a4, .int .i64 a5, .int .i64 a6] w fun e w' => e = .returned (.tuple #[.int .i64 r1, .bool r2]) ∧ Below w.heap.size w w' := by
  have hu62 := Try.underlying62
  have hu34 := Try.underlying34
  have hu38 := Try.underlying38
  have hu32 := Try.underlying32
  have HR3_2 := Aside0.mk hr3_2
  have HC3_2 := Aside0.mk hc3_2
  clear hr3_2 hc3_2
  have HB := am_ (Below.refl w.heap.size w)
  have H : ((impl_isTime.f a5).bind fun t815 => (if t815 = true then ((impl_in.f a6 0 400).bind fun t816 => (impl_GateWait.j0 k a2 a4 a5 a6 (!t816) a0_0 a0_1 a0_2 a0_3 a1_0 a1_1 a3_0 a3_1 l3_2)) else (impl_GateWait.j0 k a2 a4 a5 a6 true a0_0 a0_1 a0_2 a0_3 a1_0 a1_1 a3_0 a3_1 l3_2))) = some (r1, r2) := h
  clear h
  have HC8 := Aside0.mk H
  clear H
  go_enter Try.func30, Try.ntmps30
  go_upto_region 1 with (first | ((with_reducible refine gate_dst (N := 7) rfl ?_); refine box_event ?hg (N := 7) ?hd (cs := #[.bool a0_0, .int .i64 a0_1, .int .i64 a0_2, .int .i64 a0_3]) (t := 62) ?hr ?_; (case hd => rfl); (case hg => rfl); (case hr => first|(go_simp;done)|(go_simp;rfl)); intro gb812 hg w9 hbox hb; have n0_ := am_ (below_step (hb_ HB.out) hb); have n1_ := am_ (hbox); have n2_ := am_ (hy_ hg (hb_ HB.out) : w.heap.size ≤ gb812); have n3_ := am_ (hy_ hg (hb_ HB.out) : w.heap.size ≤ gb812); clear HB; have HB := n0_; have BK812 := n1_; have GW812 := n2_; have GE812 := n3_; clear n0_ n1_ n2_ n3_; clear hb hbox hg) | ((with_reducible refine gate_dst (N := 8) rfl ?_); refine box_event ?hg (N := 8) ?hd (cs := #[.int .i64 a1_0, .int .i64 a1_1]) (t := 34) ?hr ?_; (case hd => rfl); (case hg => rfl); (case hr => first|(go_simp;done)|(go_simp;rfl)); intro gb813 hg w10 hbox hb; have n0_ := am_ (bb_ BK812.out hb); have n1_ := am_ (below_step (hb1_ HB.out GE812.out) hb); have n2_ := am_ (hbox); have n3_ := am_ (hy_ hg (hb1_ HB.out GE812.out) : w.heap.size ≤ gb813); have n4_ := am_ (hy_ hg (hb1_ HB.out GE812.out) : w.heap.size ≤ gb813); have n5_ := am_ ((bl_ hg BK812.out : gb812 ≠ gb813)); have n6_ := am_ ((bg_ hg BK812.out : gb813 ≠ gb812)); clear BK812; clear HB; have BK812 := n0_; have HB := n1_; have BK813 := n2_; have GW813 := n3_; have GE813 := n4_; have NB812_813 := n5_; have NB813_812 := n6_; clear n0_ n1_ n2_ n3_ n4_ n5_ n6_; clear hb hbox hg) | ((with_reducible refine gate_dst (N := 10) rfl ?_); refine box_event ?hg (N := 10) ?hd (cs := #[.int .i64 a3_0, .int .i64 a3_1, .slice A3_2 l3_2.length c3_2]) (t := 38) ?hr ?_; (case hd => rfl); (case hg => rfl); (case hr => first|(go_simp;done)|(go_simp;rfl)); intro gb814 hg w11 hbox hb; have n0_ := am_ (bb_ BK812.out hb); have n1_ := am_ (bb_ BK813.out hb); have n2_ := am_ (below_step (hb2_ HB.out GE812.out GE813.out) hb); have n3_ := am_ (hbox); have n4_ := am_ (hy_ hg (hb2_ HB.out GE812.out GE813.out) : w.heap.size ≤ gb814); have n5_ := am_ (hy_ hg (hb2_ HB.out GE812.out GE813.out) : w.heap.size ≤ gb814); have n6_ := am_ ((bl_ hg BK812.out : gb812 ≠ gb814)); have n7_ := am_ ((bg_ hg BK812.out : gb814 ≠ gb812)); have n8_ := am_ ((bl_ hg BK813.out : gb813 ≠ gb814)); have n9_ := am_ ((bg_ hg BK813.out : gb814 ≠ gb813)); clear BK812; clear BK813; clear HB; have BK812 := n0_; have BK813 := n1_; have HB := n2_; have BK814 := n3_; have GW814 := n4_; have GE814 := n5_; have NB812_814 := n6_; have NB814_812 := n7_; have NB813_814 := n8_; have NB814_813 := n9_; clear n0_ n1_ n2_ n3_ n4_ n5_ n6_ n7_ n8_ n9_; clear hb hbox hg))
  (try simp only [Act.put, List.setIfInBounds_toArray, List.set_cons_zero, List.set_cons_succ])
  go_cut [29] (fun v29 wc => ∃ (kq : Nat) (x29_7 : Bool), v29 = .bool x29_7 ∧ Aside0 (impl_GateWait.j0 kq a2 a4 a5 a6 x29_7 a0_0 a0_1 a0_2 a0_3 a1_0 a1_1 a3_0 a3_1 l3_2 = some (r1, r2)) ∧ Aside0 (kq ≤ k) ∧ Aside0 (wc.heap[gb812]? = some (.cells #[.bool a0_0, .int .i64 a0_1, .int .i64 a0_2, .int .i64 a0_3] 62 (0, 0))) ∧ Aside0 (wc.heap[gb813]? = some (.cells #[.int .i64 a1_0, .int .i64 a1_1] 34 (0, 0))) ∧ Aside0 (wc.heap[gb814]? = some (.cells #[.int .i64 a3_0, .int .i64 a3_1, (.slice A3_2 l3_2.length c3_2)] 38 (0, 0))) ∧ Aside0 (Below w.heap.size w wc))
  case first =>
    have H := HC8.out
    clear HC8
    replace H := Option.bind_eq_some_iff.mp H
    obtain ⟨t815, A120, H⟩ := H
    replace H : (if t815 = true then ((impl_in.f a6 0 400).bind fun t816 => (impl_GateWait.j0 k a2 a4 a5 a6 (!t816) a0_0 a0_1 a0_2 a0_3 a1_0 a1_1 a3_0 a3_1 l3_2)) else (impl_GateWait.j0 k a2 a4 a5 a6 true a0_0 a0_1 a0_2 a0_3 a1_0 a1_1 a3_0 a3_1 l3_2)) = some (r1, r2) := H
    have A12 := Aside0.mk A120
    clear A120
    by_cases c13 : t815 = true
    · subst c13
      have H1 : ((impl_in.f a6 0 400).bind fun t816 => (impl_GateWait.j0 k a2 a4 a5 a6 (!t816) a0_0 a0_1 a0_2 a0_3 a1_0 a1_1 a3_0 a3_1 l3_2)) = some (r1, r2) := by rw [if_pos rfl] at H; exact H
      clear H
      have H := H1
      clear H1
      replace H := Option.bind_eq_some_iff.mp H
      obtain ⟨t816, A140, H⟩ := H
      replace H : (impl_GateWait.j0 k a2 a4 a5 a6 (!t816) a0_0 a0_1 a0_2 a0_3 a1_0 a1_1 a3_0 a3_1 l3_2) = some (r1, r2) := H
      have A14 := Aside0.mk A140
      clear A140
      have H' := Aside0.mk H
      clear H
      go_wp2_with (first | ((with_reducible refine gate_callee (f := 75) rfl ?_); refine goesL_ (some 23) rfl rfl Try.func75 (by kernel_rfl) rfl #[.int .i64 a5] rfl arr_ ?_; (with_reducible refine (impl_isTime.calls a5 true _ A12.out).mono ?_); rintro e w' ⟨rfl, ⟨nd, rfl⟩⟩; refine ⟨_, rfl, ?_⟩) | (go_at_call 45; (with_reducible refine (impl_in.calls a6 0 400 t816 _ A14.out).mono ?_); rintro e w' ⟨rfl, ⟨nd, rfl⟩⟩))
      go_meet
      case rel => exact ⟨_, (!t816), (by first | rfl | (simp; done) | (simp [*]; done)), H', ⟨by first | omega | exact Nat.le_refl _⟩, ⟨bk_ BK812.out⟩, ⟨bk_ BK813.out⟩, ⟨bk_ BK814.out⟩, ⟨hb3_ HB.out GE812.out GE813.out GE814.out⟩⟩
    · replace c13 := Bool.eq_false_iff.mpr c13
      subst c13
      have H1 : (impl_GateWait.j0 k a2 a4 a5 a6 true a0_0 a0_1 a0_2 a0_3 a1_0 a1_1 a3_0 a3_1 l3_2) = some (r1, r2) := by rw [if_neg (show ¬ (false = true) by decide)] at H; exact H
      clear H
      have H := H1
      clear H1
      have H' := Aside0.mk H
      clear H
      go_wp2_with (first | ((with_reducible refine gate_callee (f := 75) rfl ?_); refine goesL_ (some 23) rfl rfl Try.func75 (by kernel_rfl) rfl #[.int .i64 a5] rfl arr_ ?_; (with_reducible refine (impl_isTime.calls a5 false _ A12.out).mono ?_); rintro e w' ⟨rfl, ⟨nd, rfl⟩⟩; refine ⟨_, rfl, ?_⟩))
      go_meet
      case rel => exact ⟨_, (true), (by first | rfl | (simp; done) | (simp [*]; done)), H', ⟨by first | omega | exact Nat.le_refl _⟩, ⟨bk_ BK812.out⟩, ⟨bk_ BK813.out⟩, ⟨bk_ BK814.out⟩, ⟨hb3_ HB.out GE812.out GE813.out GE814.out⟩⟩
  case rest =>
    clear HC8
    try clear c1
    try clear p2
    try clear c3
    try clear c7
    try clear c13
    obtain ⟨kq, x29_7, rfl, HA, HJ7, BK812, BK813, BK814, HB⟩ := hcut
    cases kq with
    | zero => exact absurd HA.out (by simp [impl_GateWait.j0])
    | succ kj7 =>
      have H := HA.out
      clear HA
      simp only [impl_GateWait.j0] at H
      by_cases c15 : x29_7 = true
      · subst c15
        have H1 : (some (0, false)) = some (r1, r2) := by rw [if_pos rfl] at H; exact H
        clear H
        have H := H1
        clear H1
        simp only [Option.some.injEq, Prod.mk.injEq] at H
        obtain ⟨rfl, rfl⟩ := H
        go_wp2
        go_ret2
        exact ⟨er_, hb3_ HB.out GE812.out GE813.out GE814.out⟩
      · replace c15 := Bool.eq_false_iff.mpr c15
        subst c15
        have H1 : (impl_GateWait.l0 kj7 a2 a4 a5 (wrap64 (a6 + 1)) 0 a0_0 a0_1 a0_2 a0_3 a1_0 a1_1 a3_0 a3_1 l3_2) = some (r1, r2) := by rw [if_neg (show ¬ (false = true) by decide)] at H; exact H
        clear H
        have H := H1
        clear H1
        have H' := Aside0.mk H
        clear H
        go_wp2
        go_loopg [32] kj7 (fun kq v32 w' => ∃ (x32_2 : Int), v32 = .int .i64 x32_2 ∧ Aside0 (impl_GateWait.l0 kq a2 a4 a5 (wrap64 (a6 + 1)) x32_2 a0_0 a0_1 a0_2 a0_3 a1_0 a1_1 a3_0 a3_1 l3_2 = some (r1, r2)) ∧ Aside0 (kq ≤ kj7) ∧ Aside0 (w'.heap[gb812]? = some (.cells #[.bool a0_0, .int .i64 a0_1, .int .i64 a0_2, .int .i64 a0_3] 62 (0, 0))) ∧ Aside0 (w'.heap[gb813]? = some (.cells #[.int .i64 a1_0, .int .i64 a1_1] 34 (0, 0))) ∧ Aside0 (w'.heap[gb814]? = some (.cells #[.int .i64 a3_0, .int .i64 a3_1, (.slice A3_2 l3_2.length c3_2)] 38 (0, 0))) ∧ Aside0 (Below w.heap.size w w'))
        case atStart => exact ⟨(0), (by first | rfl | (simp; done) | (simp [*]; done)), H', ⟨Nat.le_refl _⟩, ⟨bk_ BK812.out⟩, ⟨bk_ BK813.out⟩, ⟨bk_ BK814.out⟩, ⟨hb3_ HB.out GE812.out GE813.out GE814.out⟩⟩
        case round =>
          clear H'
          try clear c1
          try clear p2
          try clear c3
          try clear p6
          try clear c7
          try clear c13
          try clear c15
          try clear p2
          obtain ⟨x32_2, rfl, HA, HK2, BK812, BK813, BK814, HB⟩ := hrel
          cases gk with
          | zero => exact absurd HA.out (by simp [impl_GateWait.l0])
          | succ k2 =>
            have H := HA.out
            clear HA
            simp only [impl_GateWait.l0] at H
            by_cases c16 : x32_2 < (wrap64 (a6 + 1))
            · rw [if_pos c16] at H
              have c16b0 : decide (x32_2 < (wrap64 (a6 + 1))) = true := decide_eq_true c16
              clear c16
              replace H := Option.bind_eq_some_iff.mp H
              obtain ⟨⟨t817, t818, t819⟩, A170, H⟩ := H
              replace H : (if t819 = 0 then ((impl_GateAsk.f k2 t817 t818 true a1_0 a1_1 a2 a3_0 a3_1 l3_2 a4).bind fun bt821 => (if bt821.2.2 = 0 then (some (x32_2, true)) else (impl_GateWait.l0 k2 a2 a4 a5 (wrap64 (a6 + 1)) (wrap64 (x32_2 + 1)) a0_0 a0_1 a0_2 a0_3 a1_0 a1_1 a3_0 a3_1 l3_2))) else (impl_GateWait.l0 k2 a2 a4 a5 (wrap64 (a6 + 1)) (wrap64 (x32_2 + 1)) a0_0 a0_1 a0_2 a0_3 a1_0 a1_1 a3_0 a3_1 l3_2)) = some (r1, r2) := H
              have A17 := Aside0.mk A170
              clear A170
              by_cases c18 : t819 = 0
              · rw [if_pos c18] at H
                have c18b0 : (t819 == 0) = true := beq_iff_eq.mpr c18
                have c18b1 : (t819 != 0) = false := bne_eq_false_iff_eq.mpr c18
                clear c18
                replace H := Option.bind_eq_some_iff.mp H
                obtain ⟨⟨t821, t822, t823⟩, A190, H⟩ := H
                replace H : (if t823 = 0 then (some (x32_2, true)) else (impl_GateWait.l0 k2 a2 a4 a5 (wrap64 (a6 + 1)) (wrap64 (x32_2 + 1)) a0_0 a0_1 a0_2 a0_3 a1_0 a1_1 a3_0 a3_1 l3_2)) = some (r1, r2) := H
                have A19 := Aside0.mk A190
                clear A190
                by_cases c20 : t823 = 0
                · rw [if_pos c20] at H
                  have c20b0 : (t823 == 0) = true := beq_iff_eq.mpr c20
                  have c20b1 : (t823 != 0) = false := bne_eq_false_iff_eq.mpr c20
                  clear c20
                  simp only [Option.some.injEq, Prod.mk.injEq] at H
                  obtain ⟨rfl, rfl⟩ := H
                  have hnb21 := NB812_813.out
                  have hnc21 := NB813_812.out
                  have hnb22 := NB812_814.out
                  have hnc22 := NB814_812.out
                  have hcz23_0 := bc_ BK812.out 0 (.bool a0_0) rfl
                  have hcz23_1 := bc_ BK812.out 1 (.int .i64 a0_1) rfl
                  have hcz23_2 := bc_ BK812.out 2 (.int .i64 a0_2) rfl
                  have hcz23_3 := bc_ BK812.out 3 (.int .i64 a0_3) rfl
                  have hfz23_0 := blk_frozen BK812.out 0
                  have hfz23_1 := blk_frozen BK812.out 1
                  have hfz23_2 := blk_frozen BK812.out 2
                  have hfz23_3 := blk_frozen BK812.out 3
                  have hnb24 := NB813_814.out
                  have hnc24 := NB814_813.out
                  have hcz25_0 := bc_ BK813.out 0 (.int .i64 a1_0) rfl
                  have hcz25_1 := bc_ BK813.out 1 (.int .i64 a1_1) rfl
                  have hfz25_0 := blk_frozen BK813.out 0
                  have hfz25_1 := blk_frozen BK813.out 1
                  go_wp2_with (first | ((with_reducible refine gate_callee (f := 76) rfl ?_); refine goesL_ (some 41) rfl rfl Try.func76 (by kernel_rfl) rfl #[.agg #[.bool a0_0, .int .i64 a0_1, .int .i64 a0_2, .int .i64 a0_3], .agg #[.int .i64 a1_0, .int .i64 a1_1], .int .i64 (wrap64 (a5 + x32_2))] rfl arr_ ?_; (with_reducible refine (impl_CarryOn.calls k2 a0_0 a0_1 a0_2 a0_3 a1_0 a1_1 (wrap64 (a5 + x32_2)) t817 t818 t819 _ A17.out).mono ?_); rintro e w26 ⟨rfl, hb⟩; refine ⟨_, rfl, ?_⟩; have n0_ := am_ (bb_ BK812.out hb); have n1_ := am_ (bb_ BK813.out hb); have n2_ := am_ (bb_ BK814.out hb); have n3_ := am_ (below_step (hb3_ HB.out GE812.out GE813.out GE814.out) hb); clear BK812; clear BK813; clear BK814; clear HB; have BK812 := n0_; have BK813 := n1_; have BK814 := n2_; have HB := n3_; clear n0_ n1_ n2_ n3_; (try clear hb); (try clear hb2); (try clear hk); (try clear hi)) | ((with_reducible refine gate_dst (N := 17) rfl ?_); refine box_event ?hg (N := 17) ?hd (cs := #[.int .i64 0, .int .i64 0]) (t := 32) ?hr ?_; (case hd => rfl); (case hg => rfl); (case hr => first|(go_simp;done)|(go_simp;rfl)); intro gb820 hg w27 hbox hb; have n0_ := am_ (bb_ BK812.out hb); have n1_ := am_ (bb_ BK813.out hb); have n2_ := am_ (bb_ BK814.out hb); have n3_ := am_ (below_step (hb3_ HB.out GE812.out GE813.out GE814.out) hb); have n4_ := am_ (hbox); have n5_ := am_ (hy_ hg (hb3_ HB.out GE812.out GE813.out GE814.out) : w.heap.size ≤ gb820); have n6_ := am_ (hy_ hg (hb3_ HB.out GE812.out GE813.out GE814.out) : w.heap.size ≤ gb820); have n7_ := am_ ((bl_ hg BK812.out : gb812 ≠ gb820)); have n8_ := am_ ((bg_ hg BK812.out : gb820 ≠ gb812)); have n9_ := am_ ((bl_ hg BK813.out : gb813 ≠ gb820)); have n10_ := am_ ((bg_ hg BK813.out : gb820 ≠ gb813)); have n11_ := am_ ((bl_ hg BK814.out : gb814 ≠ gb820)); have n12_ := am_ ((bg_ hg BK814.out : gb820 ≠ gb814)); clear BK812; clear BK813; clear BK814; clear HB; have BK812 := n0_; have BK813 := n1_; have BK814 := n2_; have HB := n3_; have BK820 := n4_; have GW820 := n5_; have GE820 := n6_; have NB812_820 := n7_; have NB820_812 := n8_; have NB813_820 := n9_; have NB820_813 := n10_; have NB814_820 := n11_; have NB820_814 := n12_; clear n0_ n1_ n2_ n3_ n4_ n5_ n6_ n7_ n8_ n9_ n10_ n11_ n12_; clear hb hbox hg; have hnb28 := NB820_812.out; have hnc28 := NB812_820.out; have hnb29 := NB820_813.out; have hnc29 := NB813_820.out; have hnb30 := NB820_814.out; have hnc30 := NB814_820.out; have hcz31_0 := bc_ BK820.out 0 (.int .i64 0) rfl; have hcz31_1 := bc_ BK820.out 1 (.int .i64 0) rfl; have hfz31_0 := blk_frozen BK820.out 0; have hfz31_1 := blk_frozen BK820.out 1; have hcz32_0 := bc_ BK813.out 0 (.int .i64 a1_0) rfl; have hcz32_1 := bc_ BK813.out 1 (.int .i64 a1_1) rfl; have hfz32_0 := blk_frozen BK813.out 0; have hfz32_1 := blk_frozen BK813.out 1; have hcz33_0 := bc_ BK814.out 0 (.int .i64 a3_0) rfl; have hcz33_1 := bc_ BK814.out 1 (.int .i64 a3_1) rfl; have hcz33_2 := bc_ BK814.out 2 (.slice A3_2 l3_2.length c3_2) rfl; have hfz33_0 := blk_frozen BK814.out 0; have hfz33_1 := blk_frozen BK814.out 1; have hfz33_2 := blk_frozen BK814.out 2) | ((with_reducible refine gate_callee (f := 14) rfl ?_); refine goesL_ (some 52) rfl rfl Try.func14 (by kernel_rfl) rfl #[.agg #[.int .i64 t817, .int .i64 t818], .bool true, .agg #[.int .i64 a1_0, .int .i64 a1_1], .int .i64 a2, .agg #[.int .i64 a3_0, .int .i64 a3_1, .slice A3_2 l3_2.length c3_2], .int .i64 a4] rfl arr_ ?_; (with_reducible refine (impl_GateAsk.calls k2 t817 t818 true a1_0 a1_1 a2 a3_0 a3_1 _ _ l3_2 a4 t821 t822 t823 _ ?side1 ?side2 A19.out).mono ?_); (case side1 => exact Kd.C_below HR3_2.out (hb4_ HB.out GE812.out GE813.out GE814.out GE820.out)); (case side2 => exact HC3_2.out); rintro e w34 ⟨rfl, hb⟩; refine ⟨_, rfl, ?_⟩; have n0_ := am_ (blk_below (g := gb812) (o := .cells #[.bool a0_0, .int .i64 a0_1, .int .i64 a0_2, .int .i64 a0_3] 62 (0, 0)) (by (with_reducible repeat (first | refine blk_drewN ?_ _ | refine blk_drew ?_ | refine blk_alloc ?_ _)); refine blk_far ?_ NB812_820.out _; (with_reducible repeat (first | refine blk_drewN ?_ _ | refine blk_drew ?_ | refine blk_alloc ?_ _)); refine blk_far ?_ NB812_820.out _; (with_reducible repeat (first | refine blk_drewN ?_ _ | refine blk_drew ?_ | refine blk_alloc ?_ _)); exact BK812.out) hb); have n1_ := am_ (blk_below (g := gb813) (o := .cells #[.int .i64 a1_0, .int .i64 a1_1] 34 (0, 0)) (by (with_reducible repeat (first | refine blk_drewN ?_ _ | refine blk_drew ?_ | refine blk_alloc ?_ _)); refine blk_far ?_ NB813_820.out _; (with_reducible repeat (first | refine blk_drewN ?_ _ | refine blk_drew ?_ | refine blk_alloc ?_ _)); refine blk_far ?_ NB813_820.out _; (with_reducible repeat (first | refine blk_drewN ?_ _ | refine blk_drew ?_ | refine blk_alloc ?_ _)); exact BK813.out) hb); have n2_ := am_ (blk_below (g := gb814) (o := .cells #[.int .i64 a3_0, .int .i64 a3_1, .slice A3_2 l3_2.length c3_2] 38 (0, 0)) (by (with_reducible repeat (first | refine blk_drewN ?_ _ | refine blk_drew ?_ | refine blk_alloc ?_ _)); refine blk_far ?_ NB814_820.out _; (with_reducible repeat (first | refine blk_drewN ?_ _ | refine blk_drew ?_ | refine blk_alloc ?_ _)); refine blk_far ?_ NB814_820.out _; (with_reducible repeat (first | refine blk_drewN ?_ _ | refine blk_drew ?_ | refine blk_alloc ?_ _)); exact BK814.out) hb); have n3_ := am_ (blk_below (g := gb820) (o := .cells #[.int .i64 t817, .int .i64 t818] 32 (0, 0)) (by (with_reducible repeat (first | refine blk_drewN ?_ _ | refine blk_drew ?_ | refine blk_alloc ?_ _)); refine blk_put (cs := #[.int .i64 t817, .int .i64 0]) ?_ 1 _ rfl; (with_reducible repeat (first | refine blk_drewN ?_ _ | refine blk_drew ?_ | refine blk_alloc ?_ _)); refine blk_put (cs := #[.int .i64 0, .int .i64 0]) ?_ 0 _ rfl; (with_reducible repeat (first | refine blk_drewN ?_ _ | refine blk_drew ?_ | refine blk_alloc ?_ _)); exact BK820.out) hb); have n4_ := am_ (below_step (hb4_ HB.out GE812.out GE813.out GE814.out GE820.out) hb); clear BK812; clear BK813; clear BK814; clear BK820; clear HB; have BK812 := n0_; have BK813 := n1_; have BK814 := n2_; have BK820 := n3_; have HB := n4_; clear n0_ n1_ n2_ n3_ n4_; (try clear hb); (try clear hb2); (try clear hk); (try clear hi)))
                  go_ret2
                  exact ⟨er_, hb4_ HB.out GE812.out GE813.out GE814.out GE820.out⟩
                · rw [if_neg c20] at H
                  have c20b0 : (t823 == 0) = false := beq_eq_false_iff_ne.mpr c20
                  have c20b1 : (t823 != 0) = true := bne_iff_ne.mpr c20
                  have H' := Aside0.mk H
                  clear H
                  have hnb35 := NB812_813.out
                  have hnc35 := NB813_812.out
                  have hnb36 := NB812_814.out
                  have hnc36 := NB814_812.out
                  have hcz37_0 := bc_ BK812.out 0 (.bool a0_0) rfl
                  have hcz37_1 := bc_ BK812.out 1 (.int .i64 a0_1) rfl
                  have hcz37_2 := bc_ BK812.out 2 (.int .i64 a0_2) rfl
                  have hcz37_3 := bc_ BK812.out 3 (.int .i64 a0_3) rfl
                  have hfz37_0 := blk_frozen BK812.out 0
                  have hfz37_1 := blk_frozen BK812.out 1
                  have hfz37_2 := blk_frozen BK812.out 2
                  have hfz37_3 := blk_frozen BK812.out 3
                  have hnb38 := NB813_814.out
                  have hnc38 := NB814_813.out
                  have hcz39_0 := bc_ BK813.out 0 (.int .i64 a1_0) rfl
                  have hcz39_1 := bc_ BK813.out 1 (.int .i64 a1_1) rfl
                  have hfz39_0 := blk_frozen BK813.out 0
                  have hfz39_1 := blk_frozen BK813.out 1
                  go_wp2_with (first | ((with_reducible refine gate_callee (f := 76) rfl ?_); refine goesL_ (some 41) rfl rfl Try.func76 (by kernel_rfl) rfl #[.agg #[.bool a0_0, .int .i64 a0_1, .int .i64 a0_2, .int .i64 a0_3], .agg #[.int .i64 a1_0, .int .i64 a1_1], .int .i64 (wrap64 (a5 + x32_2))] rfl arr_ ?_; (with_reducible refine (impl_CarryOn.calls k2 a0_0 a0_1 a0_2 a0_3 a1_0 a1_1 (wrap64 (a5 + x32_2)) t817 t818 t819 _ A17.out).mono ?_); rintro e w40 ⟨rfl, hb⟩; refine ⟨_, rfl, ?_⟩; have n0_ := am_ (bb_ BK812.out hb); have n1_ := am_ (bb_ BK813.out hb); have n2_ := am_ (bb_ BK814.out hb); have n3_ := am_ (below_step (hb3_ HB.out GE812.out GE813.out GE814.out) hb); clear BK812; clear BK813; clear BK814; clear HB; have BK812 := n0_; have BK813 := n1_; have BK814 := n2_; have HB := n3_; clear n0_ n1_ n2_ n3_; (try clear hb); (try clear hb2); (try clear hk); (try clear hi)) | ((with_reducible refine gate_dst (N := 17) rfl ?_); refine box_event ?hg (N := 17) ?hd (cs := #[.int .i64 0, .int .i64 0]) (t := 32) ?hr ?_; (case hd => rfl); (case hg => rfl); (case hr => first|(go_simp;done)|(go_simp;rfl)); intro gb820 hg w41 hbox hb; have n0_ := am_ (bb_ BK812.out hb); have n1_ := am_ (bb_ BK813.out hb); have n2_ := am_ (bb_ BK814.out hb); have n3_ := am_ (below_step (hb3_ HB.out GE812.out GE813.out GE814.out) hb); have n4_ := am_ (hbox); have n5_ := am_ (hy_ hg (hb3_ HB.out GE812.out GE813.out GE814.out) : w.heap.size ≤ gb820); have n6_ := am_ (hy_ hg (hb3_ HB.out GE812.out GE813.out GE814.out) : w.heap.size ≤ gb820); have n7_ := am_ ((bl_ hg BK812.out : gb812 ≠ gb820)); have n8_ := am_ ((bg_ hg BK812.out : gb820 ≠ gb812)); have n9_ := am_ ((bl_ hg BK813.out : gb813 ≠ gb820)); have n10_ := am_ ((bg_ hg BK813.out : gb820 ≠ gb813)); have n11_ := am_ ((bl_ hg BK814.out : gb814 ≠ gb820)); have n12_ := am_ ((bg_ hg BK814.out : gb820 ≠ gb814)); clear BK812; clear BK813; clear BK814; clear HB; have BK812 := n0_; have BK813 := n1_; have BK814 := n2_; have HB := n3_; have BK820 := n4_; have GW820 := n5_; have GE820 := n6_; have NB812_820 := n7_; have NB820_812 := n8_; have NB813_820 := n9_; have NB820_813 := n10_; have NB814_820 := n11_; have NB820_814 := n12_; clear n0_ n1_ n2_ n3_ n4_ n5_ n6_ n7_ n8_ n9_ n10_ n11_ n12_; clear hb hbox hg; have hnb42 := NB820_812.out; have hnc42 := NB812_820.out; have hnb43 := NB820_813.out; have hnc43 := NB813_820.out; have hnb44 := NB820_814.out; have hnc44 := NB814_820.out; have hcz45_0 := bc_ BK820.out 0 (.int .i64 0) rfl; have hcz45_1 := bc_ BK820.out 1 (.int .i64 0) rfl; have hfz45_0 := blk_frozen BK820.out 0; have hfz45_1 := blk_frozen BK820.out 1; have hcz46_0 := bc_ BK813.out 0 (.int .i64 a1_0) rfl; have hcz46_1 := bc_ BK813.out 1 (.int .i64 a1_1) rfl; have hfz46_0 := blk_frozen BK813.out 0; have hfz46_1 := blk_frozen BK813.out 1; have hcz47_0 := bc_ BK814.out 0 (.int .i64 a3_0) rfl; have hcz47_1 := bc_ BK814.out 1 (.int .i64 a3_1) rfl; have hcz47_2 := bc_ BK814.out 2 (.slice A3_2 l3_2.length c3_2) rfl; have hfz47_0 := blk_frozen BK814.out 0; have hfz47_1 := blk_frozen BK814.out 1; have hfz47_2 := blk_frozen BK814.out 2) | ((with_reducible refine gate_callee (f := 14) rfl ?_); refine goesL_ (some 52) rfl rfl Try.func14 (by kernel_rfl) rfl #[.agg #[.int .i64 t817, .int .i64 t818], .bool true, .agg #[.int .i64 a1_0, .int .i64 a1_1], .int .i64 a2, .agg #[.int .i64 a3_0, .int .i64 a3_1, .slice A3_2 l3_2.length c3_2], .int .i64 a4] rfl arr_ ?_; (with_reducible refine (impl_GateAsk.calls k2 t817 t818 true a1_0 a1_1 a2 a3_0 a3_1 _ _ l3_2 a4 t821 t822 t823 _ ?side1 ?side2 A19.out).mono ?_); (case side1 => exact Kd.C_below HR3_2.out (hb4_ HB.out GE812.out GE813.out GE814.out GE820.out)); (case side2 => exact HC3_2.out); rintro e w48 ⟨rfl, hb⟩; refine ⟨_, rfl, ?_⟩; have n0_ := am_ (blk_below (g := gb812) (o := .cells #[.bool a0_0, .int .i64 a0_1, .int .i64 a0_2, .int .i64 a0_3] 62 (0, 0)) (by (with_reducible repeat (first | refine blk_drewN ?_ _ | refine blk_drew ?_ | refine blk_alloc ?_ _)); refine blk_far ?_ NB812_820.out _; (with_reducible repeat (first | refine blk_drewN ?_ _ | refine blk_drew ?_ | refine blk_alloc ?_ _)); refine blk_far ?_ NB812_820.out _; (with_reducible repeat (first | refine blk_drewN ?_ _ | refine blk_drew ?_ | refine blk_alloc ?_ _)); exact BK812.out) hb); have n1_ := am_ (blk_below (g := gb813) (o := .cells #[.int .i64 a1_0, .int .i64 a1_1] 34 (0, 0)) (by (with_reducible repeat (first | refine blk_drewN ?_ _ | refine blk_drew ?_ | refine blk_alloc ?_ _)); refine blk_far ?_ NB813_820.out _; (with_reducible repeat (first | refine blk_drewN ?_ _ | refine blk_drew ?_ | refine blk_alloc ?_ _)); refine blk_far ?_ NB813_820.out _; (with_reducible repeat (first | refine blk_drewN ?_ _ | refine blk_drew ?_ | refine blk_alloc ?_ _)); exact BK813.out) hb); have n2_ := am_ (blk_below (g := gb814) (o := .cells #[.int .i64 a3_0, .int .i64 a3_1, .slice A3_2 l3_2.length c3_2] 38 (0, 0)) (by (with_reducible repeat (first | refine blk_drewN ?_ _ | refine blk_drew ?_ | refine blk_alloc ?_ _)); refine blk_far ?_ NB814_820.out _; (with_reducible repeat (first | refine blk_drewN ?_ _ | refine blk_drew ?_ | refine blk_alloc ?_ _)); refine blk_far ?_ NB814_820.out _; (with_reducible repeat (first | refine blk_drewN ?_ _ | refine blk_drew ?_ | refine blk_alloc ?_ _)); exact BK814.out) hb); have n3_ := am_ (blk_below (g := gb820) (o := .cells #[.int .i64 t817, .int .i64 t818] 32 (0, 0)) (by (with_reducible repeat (first | refine blk_drewN ?_ _ | refine blk_drew ?_ | refine blk_alloc ?_ _)); refine blk_put (cs := #[.int .i64 t817, .int .i64 0]) ?_ 1 _ rfl; (with_reducible repeat (first | refine blk_drewN ?_ _ | refine blk_drew ?_ | refine blk_alloc ?_ _)); refine blk_put (cs := #[.int .i64 0, .int .i64 0]) ?_ 0 _ rfl; (with_reducible repeat (first | refine blk_drewN ?_ _ | refine blk_drew ?_ | refine blk_alloc ?_ _)); exact BK820.out) hb); have n4_ := am_ (below_step (hb4_ HB.out GE812.out GE813.out GE814.out GE820.out) hb); clear BK812; clear BK813; clear BK814; clear BK820; clear HB; have BK812 := n0_; have BK813 := n1_; have BK814 := n2_; have BK820 := n3_; have HB := n4_; clear n0_ n1_ n2_ n3_ n4_; (try clear hb); (try clear hb2); (try clear hk); (try clear hi)))
                  go_roundg k2
                  case measure => have := HJ7.out; have := HK2.out; omega
                  case rel => exact ⟨(wrap64 (x32_2 + 1)), (by first | rfl | (simp; done) | (simp [*]; done)), H', ⟨by have := HJ7.out; have := HK2.out; omega⟩, ⟨bk_ BK812.out⟩, ⟨bk_ BK813.out⟩, ⟨bk_ BK814.out⟩, ⟨hb4_ HB.out GE812.out GE813.out GE814.out GE820.out⟩⟩
              · rw [if_neg c18] at H
                have c18b0 : (t819 == 0) = false := beq_eq_false_iff_ne.mpr c18
                have c18b1 : (t819 != 0) = true := bne_iff_ne.mpr c18
                have H' := Aside0.mk H
                clear H
                have hnb49 := NB812_813.out
                have hnc49 := NB813_812.out
                have hnb50 := NB812_814.out
                have hnc50 := NB814_812.out
                have hcz51_0 := bc_ BK812.out 0 (.bool a0_0) rfl
                have hcz51_1 := bc_ BK812.out 1 (.int .i64 a0_1) rfl
                have hcz51_2 := bc_ BK812.out 2 (.int .i64 a0_2) rfl
                have hcz51_3 := bc_ BK812.out 3 (.int .i64 a0_3) rfl
                have hfz51_0 := blk_frozen BK812.out 0
                have hfz51_1 := blk_frozen BK812.out 1
                have hfz51_2 := blk_frozen BK812.out 2
                have hfz51_3 := blk_frozen BK812.out 3
                have hnb52 := NB813_814.out
                have hnc52 := NB814_813.out
                have hcz53_0 := bc_ BK813.out 0 (.int .i64 a1_0) rfl
                have hcz53_1 := bc_ BK813.out 1 (.int .i64 a1_1) rfl
                have hfz53_0 := blk_frozen BK813.out 0
                have hfz53_1 := blk_frozen BK813.out 1
                go_wp2_with (first | ((with_reducible refine gate_callee (f := 76) rfl ?_); refine goesL_ (some 41) rfl rfl Try.func76 (by kernel_rfl) rfl #[.agg #[.bool a0_0, .int .i64 a0_1, .int .i64 a0_2, .int .i64 a0_3], .agg #[.int .i64 a1_0, .int .i64 a1_1], .int .i64 (wrap64 (a5 + x32_2))] rfl arr_ ?_; (with_reducible refine (impl_CarryOn.calls k2 a0_0 a0_1 a0_2 a0_3 a1_0 a1_1 (wrap64 (a5 + x32_2)) t817 t818 t819 _ A17.out).mono ?_); rintro e w54 ⟨rfl, hb⟩; refine ⟨_, rfl, ?_⟩; have n0_ := am_ (bb_ BK812.out hb); have n1_ := am_ (bb_ BK813.out hb); have n2_ := am_ (bb_ BK814.out hb); have n3_ := am_ (below_step (hb3_ HB.out GE812.out GE813.out GE814.out) hb); clear BK812; clear BK813; clear BK814; clear HB; have BK812 := n0_; have BK813 := n1_; have BK814 := n2_; have HB := n3_; clear n0_ n1_ n2_ n3_; (try clear hb); (try clear hb2); (try clear hk); (try clear hi)) | ((with_reducible refine gate_dst (N := 17) rfl ?_); refine box_event ?hg (N := 17) ?hd (cs := #[.int .i64 0, .int .i64 0]) (t := 32) ?hr ?_; (case hd => rfl); (case hg => rfl); (case hr => first|(go_simp;done)|(go_simp;rfl)); intro gb820 hg w55 hbox hb; have n0_ := am_ (bb_ BK812.out hb); have n1_ := am_ (bb_ BK813.out hb); have n2_ := am_ (bb_ BK814.out hb); have n3_ := am_ (below_step (hb3_ HB.out GE812.out GE813.out GE814.out) hb); have n4_ := am_ (hbox); have n5_ := am_ (hy_ hg (hb3_ HB.out GE812.out GE813.out GE814.out) : w.heap.size ≤ gb820); have n6_ := am_ (hy_ hg (hb3_ HB.out GE812.out GE813.out GE814.out) : w.heap.size ≤ gb820); have n7_ := am_ ((bl_ hg BK812.out : gb812 ≠ gb820)); have n8_ := am_ ((bg_ hg BK812.out : gb820 ≠ gb812)); have n9_ := am_ ((bl_ hg BK813.out : gb813 ≠ gb820)); have n10_ := am_ ((bg_ hg BK813.out : gb820 ≠ gb813)); have n11_ := am_ ((bl_ hg BK814.out : gb814 ≠ gb820)); have n12_ := am_ ((bg_ hg BK814.out : gb820 ≠ gb814)); clear BK812; clear BK813; clear BK814; clear HB; have BK812 := n0_; have BK813 := n1_; have BK814 := n2_; have HB := n3_; have BK820 := n4_; have GW820 := n5_; have GE820 := n6_; have NB812_820 := n7_; have NB820_812 := n8_; have NB813_820 := n9_; have NB820_813 := n10_; have NB814_820 := n11_; have NB820_814 := n12_; clear n0_ n1_ n2_ n3_ n4_ n5_ n6_ n7_ n8_ n9_ n10_ n11_ n12_; clear hb hbox hg; have hnb56 := NB820_812.out; have hnc56 := NB812_820.out; have hnb57 := NB820_813.out; have hnc57 := NB813_820.out; have hnb58 := NB820_814.out; have hnc58 := NB814_820.out; have hcz59_0 := bc_ BK820.out 0 (.int .i64 0) rfl; have hcz59_1 := bc_ BK820.out 1 (.int .i64 0) rfl; have hfz59_0 := blk_frozen BK820.out 0; have hfz59_1 := blk_frozen BK820.out 1))
                go_roundg k2
                case measure => have := HJ7.out; have := HK2.out; omega
                case rel => exact ⟨(wrap64 (x32_2 + 1)), (by first | rfl | (simp; done) | (simp [*]; done)), H', ⟨by have := HJ7.out; have := HK2.out; omega⟩, ⟨by (with_reducible repeat (first | refine blk_drewN ?_ _ | refine blk_drew ?_ | refine blk_alloc ?_ _)); refine blk_far ?_ NB812_820.out _; (with_reducible repeat (first | refine blk_drewN ?_ _ | refine blk_drew ?_ | refine blk_alloc ?_ _)); refine blk_far ?_ NB812_820.out _; (with_reducible repeat (first | refine blk_drewN ?_ _ | refine blk_drew ?_ | refine blk_alloc ?_ _)); exact BK812.out⟩, ⟨by (with_reducible repeat (first | refine blk_drewN ?_ _ | refine blk_drew ?_ | refine blk_alloc ?_ _)); refine blk_far ?_ NB813_820.out _; (with_reducible repeat (first | refine blk_drewN ?_ _ | refine blk_drew ?_ | refine blk_alloc ?_ _)); refine blk_far ?_ NB813_820.out _; (with_reducible repeat (first | refine blk_drewN ?_ _ | refine blk_drew ?_ | refine blk_alloc ?_ _)); exact BK813.out⟩, ⟨by (with_reducible repeat (first | refine blk_drewN ?_ _ | refine blk_drew ?_ | refine blk_alloc ?_ _)); refine blk_far ?_ NB814_820.out _; (with_reducible repeat (first | refine blk_drewN ?_ _ | refine blk_drew ?_ | refine blk_alloc ?_ _)); refine blk_far ?_ NB814_820.out _; (with_reducible repeat (first | refine blk_drewN ?_ _ | refine blk_drew ?_ | refine blk_alloc ?_ _)); exact BK814.out⟩, ⟨hb4_ HB.out GE812.out GE813.out GE814.out GE820.out⟩⟩
            · rw [if_neg c16] at H
              have c16b0 : decide (x32_2 < (wrap64 (a6 + 1))) = false := decide_eq_false c16
              clear c16
              simp only [Option.some.injEq, Prod.mk.injEq] at H
              obtain ⟨rfl, rfl⟩ := H
              go_wp2
              go_ret2
              exact ⟨er_, hb3_ HB.out GE812.out GE813.out GE814.out⟩
end Go.Proofs.Ytejohmompmjhnaa.P

namespace Go.Proofs.Ytejohmompmjhnaa.P
open Go.RowKit Go.Proofs.YtejohmompmjhnaaW.PrintWords Go.Proofs.YtejohmompmjhnaaW.PrintLast Go.Proofs.YtejohmompmjhnaaW.PrintMore
attribute [local go_sem] max2_int min2_int max_two min_two max_three min_three max_four min_four
set_option linter.unusedVariables false
set_option linter.unusedSimpArgs false
def laws_FnExactGateWait.j0 : Nat → Bool → Int → Int → List (S104) → Int → Int → List (S55) → Option (Bool)
  | 0, _, _, _, _, _, _, _ => none
  | k + 1, x62, x827000, x827001, x827002, x847000, x847001, x847002 => if x62 = true then (some false) else ((laws_toPlan.f k x827000 x827001 x827002).bind fun bt855 => ((laws_eqPlan.f k x847000 x847001 x847002 bt855.1 bt855.2.1 bt855.2.2).bind fun t860 => (if t860 = true then (some true) else (some false))))
def laws_FnExactGateWait.f (k : Nat) (a0_0 : Bool) (a0_1 : Int) (a0_2 : Int) (a0_3 : Int) (a1_0 : Int) (a1_1 : Int) (a2 : Int) (a3_0 : Int) (a3_1 : Int) (l3_2 : List (S104)) (a4 : Int) (a5 : Int) (a6 : Int) : Option (Bool) := (laws_szPlan.f a3_0 a3_1 l3_2 1048576).bind fun t827 => (if t827 < 0 then (some true) else ((laws_toLocal.f a0_0 a0_1 a0_2 a0_3).bind fun bt828 => ((laws_toDrift.f a1_0 a1_1).bind fun bt832 => ((laws_toPlan.f k a3_0 a3_1 l3_2).bind fun bt834 => ((spec_GateWait.f k bt828.1 bt828.2.1 bt828.2.2.1 bt828.2.2.2 bt832.1 bt832.2 a2 bt834.1 bt834.2.1 bt834.2.2 a4 a5 a6).bind fun bt839 => ((laws_toPlan.f k a3_0 a3_1 l3_2).bind fun bt841 => ((laws_toLocal.f a0_0 a0_1 a0_2 a0_3).bind fun bt847 => ((laws_toDrift.f a1_0 a1_1).bind fun bt851 => ((impl_GateWait.f k bt847.1 bt847.2.1 bt847.2.2.1 bt847.2.2.2 bt851.1 bt851.2 a2 bt841.1 bt841.2.1 bt841.2.2 a4 a5 a6).bind fun bt853 => (if bt853.1 = bt839.1 then (laws_FnExactGateWait.j0 k (bt853.2 != bt839.2) a3_0 a3_1 l3_2 bt841.1 bt841.2.1 bt841.2.2) else (laws_FnExactGateWait.j0 k true a3_0 a3_1 l3_2 bt841.1 bt841.2.1 bt841.2.2)))))))))))
theorem laws_FnExactGateWait.mono_l : ∀ k, (∀ y0 y1 y2 y3 y4 y5 y6, LeO (laws_FnExactGateWait.j0 k y0 y1 y2 y3 y4 y5 y6) (laws_FnExactGateWait.j0 (k + 1) y0 y1 y2 y3 y4 y5 y6))
  | 0 => fun _ _ _ _ _ _ _ r h => by simp [laws_FnExactGateWait.j0] at h
  | k + 1 => by
    have ih0 := laws_FnExactGateWait.mono_l k
    · intro y0 y1 y2 y3 y4 y5 y6
      unfold laws_FnExactGateWait.j0
      repeat' first
      | (with_reducible exact ih0 _ _ _ _ _ _ _)
      | (with_reducible exact impl_GateWait.mono _ _ _ _ _ _ _ _ _ _ _ _ _ _)
      | (with_reducible exact laws_eqPlan.mono _ _ _ _ _ _ _)
      | (with_reducible exact laws_toPlan.mono _ _ _ _)
      | (with_reducible exact spec_GateWait.mono _ _ _ _ _ _ _ _ _ _ _ _ _ _)
      | (with_reducible exact LeO.refl _)
      | (with_reducible exact LeO.none _)
      | (with_reducible refine LeO.ite ?_ ?_)
      | (with_reducible refine LeO.bind ?_ (fun _ => ?_))
      | exact ih0 _ _ _ _ _ _ _
      | exact impl_GateWait.mono _ _ _ _ _ _ _ _ _ _ _ _ _ _
      | exact laws_eqPlan.mono _ _ _ _ _ _ _
      | exact laws_toPlan.mono _ _ _ _
      | exact spec_GateWait.mono _ _ _ _ _ _ _ _ _ _ _ _ _ _
      | exact LeO.none _
      | refine LeO.ite ?_ ?_
      | refine LeO.bind ?_ (fun _ => ?_)
theorem laws_FnExactGateWait.mono : ∀ a0 a1 a2 a3 a4 a5 a6 a7 a8 a9 a10 a11 a12 k, LeO (laws_FnExactGateWait.f k a0 a1 a2 a3 a4 a5 a6 a7 a8 a9 a10 a11 a12) (laws_FnExactGateWait.f (k + 1) a0 a1 a2 a3 a4 a5 a6 a7 a8 a9 a10 a11 a12) := by
  intro a0 a1 a2 a3 a4 a5 a6 a7 a8 a9 a10 a11 a12 k
  have ih0 := laws_FnExactGateWait.mono_l k
  unfold laws_FnExactGateWait.f
  repeat' first
      | (with_reducible exact ih0 _ _ _ _ _ _ _)
      | (with_reducible exact impl_GateWait.mono _ _ _ _ _ _ _ _ _ _ _ _ _ _)
      | (with_reducible exact laws_eqPlan.mono _ _ _ _ _ _ _)
      | (with_reducible exact laws_toPlan.mono _ _ _ _)
      | (with_reducible exact spec_GateWait.mono _ _ _ _ _ _ _ _ _ _ _ _ _ _)
      | (with_reducible exact LeO.refl _)
      | (with_reducible exact LeO.none _)
      | (with_reducible refine LeO.ite ?_ ?_)
      | (with_reducible refine LeO.bind ?_ (fun _ => ?_))
      | exact ih0 _ _ _ _ _ _ _
      | exact impl_GateWait.mono _ _ _ _ _ _ _ _ _ _ _ _ _ _
      | exact laws_eqPlan.mono _ _ _ _ _ _ _
      | exact laws_toPlan.mono _ _ _ _
      | exact spec_GateWait.mono _ _ _ _ _ _ _ _ _ _ _ _ _ _
      | exact LeO.none _
      | refine LeO.ite ?_ ?_
      | refine LeO.bind ?_ (fun _ => ?_)
def laws_FnExactGateWait.T5 : Bool × List (List Nat × List Nat) := (true, [([], []), ([0], [0]), ([], []), ([2, 1], [2]), ([], []), ([], []), ([5, 3], [5]), ([], []), ([], []), ([], []), ([1, 3, 4, 6, 7, 8, 9, 6], [1, 3, 4, 6, 7, 8, 9]), ([10], [10]), ([11], [11]), ([11], [11]), ([12, 10, 0, 1, 2, 3, 4, 5, 6, 7, 8, 9, 10, 11, 12], [12]), ([13, 14, 0, 1, 2, 3, 4, 5, 6, 7, 8, 9, 10, 11, 12, 13, 14], [13])])
def laws_FnExactGateWait.B5 : List Nat := [0, 1, 0, 7, 0, 0, 47, 0, 0, 0, 1023, 2047, 4095, 4095, 8191, 32767]
theorem laws_FnExactGateWait.tab5 : rtab .any (opsOf Try.f7 5) = laws_FnExactGateWait.T5 := by kernel_rfl
theorem laws_FnExactGateWait.bits5 : waitsOk laws_FnExactGateWait.T5.2 laws_FnExactGateWait.B5 = true := by kernel_rfl
def laws_FnExactGateWait.T7 : Bool × List (List Nat × List Nat) := (true, [([], []), ([0], [0]), ([], []), ([2, 1], [2]), ([], []), ([], []), ([], []), ([], []), ([], []), ([1, 3, 4, 5, 6, 7, 8, 3], [1, 3, 4, 5, 6, 7, 8]), ([9], [9]), ([10], [10]), ([10], [10]), ([11, 9, 0, 1, 2, 3, 4, 5, 6, 7, 8, 9, 10, 11], [11]), ([12, 13, 0, 1, 2, 3, 4, 5, 6, 7, 8, 9, 10, 11, 12, 13], [12])])
def laws_FnExactGateWait.B7 : List Nat := [0, 1, 0, 7, 0, 0, 0, 0, 0, 511, 1023, 2047, 2047, 4095, 16383]
theorem laws_FnExactGateWait.tab7 : rtab .any (opsOf Try.f7 7) = laws_FnExactGateWait.T7 := by kernel_rfl
theorem laws_FnExactGateWait.bits7 : waitsOk laws_FnExactGateWait.T7.2 laws_FnExactGateWait.B7 = true := by kernel_rfl
set_option maxHeartbeats 8000000 in
set_option maxRecDepth 100000 in
theorem laws_FnExactGateWait.calls (k : Nat) (a0_0 : Bool) (a0_1 : Int) (a0_2 : Int) (a0_3 : Int) (a1_0 : Int) (a1_1 : Int) (a2 : Int) (a3_0 : Int) (a3_1 : Int) (A3_2 : Option Addr) (c3_2 : Nat) (l3_2 : List (S104)) (a4 : Int) (a5 : Int) (a6 : Int) (r : Bool) (w : World) (hr3_2 : Kd.C k104 w A3_2 l3_2.length l3_2) (hc3_2 : l3_2.length ≤ c3_2) (hr_ : r = true) (h : laws_FnExactGateWait.f k a0_0 a0_1 a0_2 a0_3 a1_0 a1_1 a2 a3_0 a3_1 l3_2 a4 a5 a6 = some r) :
    Calls Try.prog 7 #[.agg #[.bool a0_0, .int .i64 a0_1, .int .i64 a0_2, .int .i64 a0_3], .agg #[.int .i64 a1_0, .int .i64 a1_1], .int .i64 a2, .agg #[.int .i64 a3_0, .int .i64 a3_1, .slice A3_2 l3_2.length c3_2], .int .i64 a4, .int .i64 a5, .int .i64 a6] w fun e w' => e = .returned (.bool r) ∧ Below w.heap.size w w' := by
  have hu59 := Try.underlying59
  have hu25 := Try.underlying25
  have hu28 := Try.underlying28
  have hu38 := Try.underlying38
  have HR3_2 := Aside0.mk hr3_2
  have HC3_2 := Aside0.mk hc3_2
  clear hr3_2 hc3_2
  have HB := am_ (Below.refl w.heap.size w)
  have H : ((laws_szPlan.f a3_0 a3_1 l3_2 1048576).bind fun t827 => (if t827 < 0 then (some true) else ((laws_toLocal.f a0_0 a0_1 a0_2 a0_3).bind fun bt828 => ((laws_toDrift.f a1_0 a1_1).bind fun bt832 => ((laws_toPlan.f k a3_0 a3_1 l3_2).bind fun bt834 => ((spec_GateWait.f k bt828.1 bt828.2.1 bt828.2.2.1 bt828.2.2.2 bt832.1 bt832.2 a2 bt834.1 bt834.2.1 bt834.2.2 a4 a5 a6).bind fun bt839 => ((laws_toPlan.f k a3_0 a3_1 l3_2).bind fun bt841 => ((laws_toLocal.f a0_0 a0_1 a0_2 a0_3).bind fun bt847 => ((laws_toDrift.f a1_0 a1_1).bind fun bt851 => ((impl_GateWait.f k bt847.1 bt847.2.1 bt847.2.2.1 bt847.2.2.2 bt851.1 bt851.2 a2 bt841.1 bt841.2.1 bt841.2.2 a4 a5 a6).bind fun bt853 => (if bt853.1 = bt839.1 then (laws_FnExactGateWait.j0 k (bt853.2 != bt839.2) a3_0 a3_1 l3_2 bt841.1 bt841.2.1 bt841.2.2) else (laws_FnExactGateWait.j0 k true a3_0 a3_1 l3_2 bt841.1 bt841.2.1 bt841.2.2)))))))))))) = some r := h
  clear h
  replace H := Option.bind_eq_some_iff.mp H
  obtain ⟨t827, A80, H⟩ := H
  replace H : (if t827 < 0 then (some true) else ((laws_toLocal.f a0_0 a0_1 a0_2 a0_3).bind fun bt828 => ((laws_toDrift.f a1_0 a1_1).bind fun bt832 => ((laws_toPlan.f k a3_0 a3_1 l3_2).bind fun bt834 => ((spec_GateWait.f k bt828.1 bt828.2.1 bt828.2.2.1 bt828.2.2.2 bt832.1 bt832.2 a2 bt834.1 bt834.2.1 bt834.2.2 a4 a5 a6).bind fun bt839 => ((laws_toPlan.f k a3_0 a3_1 l3_2).bind fun bt841 => ((laws_toLocal.f a0_0 a0_1 a0_2 a0_3).bind fun bt847 => ((laws_toDrift.f a1_0 a1_1).bind fun bt851 => ((impl_GateWait.f k bt847.1 bt847.2.1 bt847.2.2.1 bt847.2.2.2 bt851.1 bt851.2 a2 bt841.1 bt841.2.1 bt841.2.2 a4 a5 a6).bind fun bt853 => (if bt853.1 = bt839.1 then (laws_FnExactGateWait.j0 k (bt853.2 != bt839.2) a3_0 a3_1 l3_2 bt841.1 bt841.2.1 bt841.2.2) else (laws_FnExactGateWait.j0 k true a3_0 a3_1 l3_2 bt841.1 bt841.2.1 bt841.2.2))))))))))) = some r := H
  have A8 := Aside0.mk A80
  clear A80
  by_cases c9 : t827 < 0
  · rw [if_pos c9] at H
    have c9b0 : decide (t827 < 0) = true := decide_eq_true c9
    clear c9
    obtain rfl := Option.some.inj H
    go_enter Try.func7, Try.ntmps7
    go_wp2_with (first | ((with_reducible refine gate_dst (N := 7) rfl ?_); refine box_event ?hg (N := 7) ?hd (cs := #[.bool a0_0, .int .i64 a0_1, .int .i64 a0_2, .int .i64 a0_3]) (t := 59) ?hr ?_; (case hd => rfl); (case hg => rfl); (case hr => first|(go_simp;done)|(go_simp;rfl)); intro gb824 hg w10 hbox hb; have n0_ := am_ (below_step (hb_ HB.out) hb); have n1_ := am_ (hbox); have n2_ := am_ (hy_ hg (hb_ HB.out) : w.heap.size ≤ gb824); have n3_ := am_ (hy_ hg (hb_ HB.out) : w.heap.size ≤ gb824); clear HB; have HB := n0_; have BK824 := n1_; have GW824 := n2_; have GE824 := n3_; clear n0_ n1_ n2_ n3_; clear hb hbox hg) | ((with_reducible refine gate_dst (N := 8) rfl ?_); refine box_event ?hg (N := 8) ?hd (cs := #[.int .i64 a1_0, .int .i64 a1_1]) (t := 25) ?hr ?_; (case hd => rfl); (case hg => rfl); (case hr => first|(go_simp;done)|(go_simp;rfl)); intro gb825 hg w11 hbox hb; have n0_ := am_ (bb_ BK824.out hb); have n1_ := am_ (below_step (hb1_ HB.out GE824.out) hb); have n2_ := am_ (hbox); have n3_ := am_ (hy_ hg (hb1_ HB.out GE824.out) : w.heap.size ≤ gb825); have n4_ := am_ (hy_ hg (hb1_ HB.out GE824.out) : w.heap.size ≤ gb825); have n5_ := am_ ((bl_ hg BK824.out : gb824 ≠ gb825)); have n6_ := am_ ((bg_ hg BK824.out : gb825 ≠ gb824)); clear BK824; clear HB; have BK824 := n0_; have HB := n1_; have BK825 := n2_; have GW825 := n3_; have GE825 := n4_; have NB824_825 := n5_; have NB825_824 := n6_; clear n0_ n1_ n2_ n3_ n4_ n5_ n6_; clear hb hbox hg) | ((with_reducible refine gate_dst (N := 10) rfl ?_); refine box_event ?hg (N := 10) ?hd (cs := #[.int .i64 a3_0, .int .i64 a3_1, .slice A3_2 l3_2.length c3_2]) (t := 28) ?hr ?_; (case hd => rfl); (case hg => rfl); (case hr => first|(go_simp;done)|(go_simp;rfl)); intro gb826 hg w12 hbox hb; have n0_ := am_ (bb_ BK824.out hb); have n1_ := am_ (bb_ BK825.out hb); have n2_ := am_ (below_step (hb2_ HB.out GE824.out GE825.out) hb); have n3_ := am_ (hbox); have n4_ := am_ (hy_ hg (hb2_ HB.out GE824.out GE825.out) : w.heap.size ≤ gb826); have n5_ := am_ (hy_ hg (hb2_ HB.out GE824.out GE825.out) : w.heap.size ≤ gb826); have n6_ := am_ ((bl_ hg BK824.out : gb824 ≠ gb826)); have n7_ := am_ ((bg_ hg BK824.out : gb826 ≠ gb824)); have n8_ := am_ ((bl_ hg BK825.out : gb825 ≠ gb826)); have n9_ := am_ ((bg_ hg BK825.out : gb826 ≠ gb825)); clear BK824; clear BK825; clear HB; have BK824 := n0_; have BK825 := n1_; have HB := n2_; have BK826 := n3_; have GW826 := n4_; have GE826 := n5_; have NB824_826 := n6_; have NB826_824 := n7_; have NB825_826 := n8_; have NB826_825 := n9_; clear n0_ n1_ n2_ n3_ n4_ n5_ n6_ n7_ n8_ n9_; clear hb hbox hg; have hnb13 := NB826_824.out; have hnc13 := NB824_826.out; have hnb14 := NB826_825.out; have hnc14 := NB825_826.out; have hcz15_0 := bc_ BK826.out 0 (.int .i64 a3_0) rfl; have hcz15_1 := bc_ BK826.out 1 (.int .i64 a3_1) rfl; have hcz15_2 := bc_ BK826.out 2 (.slice A3_2 l3_2.length c3_2) rfl; have hfz15_0 := blk_frozen BK826.out 0; have hfz15_1 := blk_frozen BK826.out 1; have hfz15_2 := blk_frozen BK826.out 2) | ((with_reducible refine gate_callee (f := 9) rfl ?_); refine goesL_ (some 23) rfl rfl Try.func9 (by kernel_rfl) rfl #[.agg #[.int .i64 a3_0, .int .i64 a3_1, .slice A3_2 l3_2.length c3_2], .int .i64 1048576] rfl arr_ ?_; (with_reducible refine (laws_szPlan.calls a3_0 a3_1 _ _ l3_2 1048576 t827 _ ?side1 ?side2 A8.out).mono ?_); (case side1 => exact kc_ (Kd.C_below HR3_2.out HB.out)); (case side2 => exact HC3_2.out); rintro e w16 ⟨rfl, hb⟩; refine ⟨_, rfl, ?_⟩; have n0_ := am_ (bb_ BK824.out hb); have n1_ := am_ (bb_ BK825.out hb); have n2_ := am_ (bb_ BK826.out hb); have n3_ := am_ (below_step (hb3_ HB.out GE824.out GE825.out GE826.out) hb); clear BK824; clear BK825; clear BK826; clear HB; have BK824 := n0_; have BK825 := n1_; have BK826 := n2_; have HB := n3_; clear n0_ n1_ n2_ n3_; (try clear hb); (try clear hb2); (try clear hk); (try clear hi)))
    go_ret
    exact ⟨er_, hb3_ HB.out GE824.out GE825.out GE826.out⟩
  · rw [if_neg c9] at H
    have c9b0 : decide (t827 < 0) = false := decide_eq_false c9
    clear c9
    replace H := Option.bind_eq_some_iff.mp H
    obtain ⟨⟨t828, t829, t830, t831⟩, A170, H⟩ := H
    replace H : ((laws_toDrift.f a1_0 a1_1).bind fun bt832 => ((laws_toPlan.f k a3_0 a3_1 l3_2).bind fun bt834 => ((spec_GateWait.f k t828 t829 t830 t831 bt832.1 bt832.2 a2 bt834.1 bt834.2.1 bt834.2.2 a4 a5 a6).bind fun bt839 => ((laws_toPlan.f k a3_0 a3_1 l3_2).bind fun bt841 => ((laws_toLocal.f a0_0 a0_1 a0_2 a0_3).bind fun bt847 => ((laws_toDrift.f a1_0 a1_1).bind fun bt851 => ((impl_GateWait.f k bt847.1 bt847.2.1 bt847.2.2.1 bt847.2.2.2 bt851.1 bt851.2 a2 bt841.1 bt841.2.1 bt841.2.2 a4 a5 a6).bind fun bt853 => (if bt853.1 = bt839.1 then (laws_FnExactGateWait.j0 k (bt853.2 != bt839.2) a3_0 a3_1 l3_2 bt841.1 bt841.2.1 bt841.2.2) else (laws_FnExactGateWait.j0 k true a3_0 a3_1 l3_2 bt841.1 bt841.2.1 bt841.2.2))))))))) = some r := H
    have A17 := Aside0.mk A170
    clear A170
    replace H := Option.bind_eq_some_iff.mp H
    obtain ⟨⟨t832, t833⟩, A180, H⟩ := H
    replace H : ((laws_toPlan.f k a3_0 a3_1 l3_2).bind fun bt834 => ((spec_GateWait.f k t828 t829 t830 t831 t832 t833 a2 bt834.1 bt834.2.1 bt834.2.2 a4 a5 a6).bind fun bt839 => ((laws_toPlan.f k a3_0 a3_1 l3_2).bind fun bt841 => ((laws_toLocal.f a0_0 a0_1 a0_2 a0_3).bind fun bt847 => ((laws_toDrift.f a1_0 a1_1).bind fun bt851 => ((impl_GateWait.f k bt847.1 bt847.2.1 bt847.2.2.1 bt847.2.2.2 bt851.1 bt851.2 a2 bt841.1 bt841.2.1 bt841.2.2 a4 a5 a6).bind fun bt853 => (if bt853.1 = bt839.1 then (laws_FnExactGateWait.j0 k (bt853.2 != bt839.2) a3_0 a3_1 l3_2 bt841.1 bt841.2.1 bt841.2.2) else (laws_FnExactGateWait.j0 k true a3_0 a3_1 l3_2 bt841.1 bt841.2.1 bt841.2.2)))))))) = some r := H
    have A18 := Aside0.mk A180
    clear A180
    replace H := Option.bind_eq_some_iff.mp H
    obtain ⟨⟨t834, t835, t836⟩, A190, H⟩ := H
    replace H : ((spec_GateWait.f k t828 t829 t830 t831 t832 t833 a2 t834 t835 t836 a4 a5 a6).bind fun bt839 => ((laws_toPlan.f k a3_0 a3_1 l3_2).bind fun bt841 => ((laws_toLocal.f a0_0 a0_1 a0_2 a0_3).bind fun bt847 => ((laws_toDrift.f a1_0 a1_1).bind fun bt851 => ((impl_GateWait.f k bt847.1 bt847.2.1 bt847.2.2.1 bt847.2.2.2 bt851.1 bt851.2 a2 bt841.1 bt841.2.1 bt841.2.2 a4 a5 a6).bind fun bt853 => (if bt853.1 = bt839.1 then (laws_FnExactGateWait.j0 k (bt853.2 != bt839.2) a3_0 a3_1 l3_2 bt841.1 bt841.2.1 bt841.2.2) else (laws_FnExactGateWait.j0 k true a3_0 a3_1 l3_2 bt841.1 bt841.2.1 bt841.2.2))))))) = some r := H
    have A19 := Aside0.mk A190
    clear A190
    replace H := Option.bind_eq_some_iff.mp H
    obtain ⟨⟨t839, t840⟩, A200, H⟩ := H
    replace H : ((laws_toPlan.f k a3_0 a3_1 l3_2).bind fun bt841 => ((laws_toLocal.f a0_0 a0_1 a0_2 a0_3).bind fun bt847 => ((laws_toDrift.f a1_0 a1_1).bind fun bt851 => ((impl_GateWait.f k bt847.1 bt847.2.1 bt847.2.2.1 bt847.2.2.2 bt851.1 bt851.2 a2 bt841.1 bt841.2.1 bt841.2.2 a4 a5 a6).bind fun bt853 => (if bt853.1 = t839 then (laws_FnExactGateWait.j0 k (bt853.2 != t840) a3_0 a3_1 l3_2 bt841.1 bt841.2.1 bt841.2.2) else (laws_FnExactGateWait.j0 k true a3_0 a3_1 l3_2 bt841.1 bt841.2.1 bt841.2.2)))))) = some r := H
    have A20 := Aside0.mk A200
    clear A200
    replace H := Option.bind_eq_some_iff.mp H
    obtain ⟨⟨t841, t842, t843⟩, A210, H⟩ := H
    replace H : ((laws_toLocal.f a0_0 a0_1 a0_2 a0_3).bind fun bt847 => ((laws_toDrift.f a1_0 a1_1).bind fun bt851 => ((impl_GateWait.f k bt847.1 bt847.2.1 bt847.2.2.1 bt847.2.2.2 bt851.1 bt851.2 a2 t841 t842 t843 a4 a5 a6).bind fun bt853 => (if bt853.1 = t839 then (laws_FnExactGateWait.j0 k (bt853.2 != t840) a3_0 a3_1 l3_2 t841 t842 t843) else (laws_FnExactGateWait.j0 k true a3_0 a3_1 l3_2 t841 t842 t843))))) = some r := H
    have A21 := Aside0.mk A210
    clear A210
    replace H := Option.bind_eq_some_iff.mp H
    obtain ⟨⟨t847, t848, t849, t850⟩, A220, H⟩ := H
    replace H : ((laws_toDrift.f a1_0 a1_1).bind fun bt851 => ((impl_GateWait.f k t847 t848 t849 t850 bt851.1 bt851.2 a2 t841 t842 t843 a4 a5 a6).bind fun bt853 => (if bt853.1 = t839 then (laws_FnExactGateWait.j0 k (bt853.2 != t840) a3_0 a3_1 l3_2 t841 t842 t843) else (laws_FnExactGateWait.j0 k true a3_0 a3_1 l3_2 t841 t842 t843)))) = some r := H
    have A22 := Aside0.mk A220
    clear A220
    replace H := Option.bind_eq_some_iff.mp H
    obtain ⟨⟨t851, t852⟩, A230, H⟩ := H
    replace H : ((impl_GateWait.f k t847 t848 t849 t850 t851 t852 a2 t841 t842 t843 a4 a5 a6).bind fun bt853 => (if bt853.1 = t839 then (laws_FnExactGateWait.j0 k (bt853.2 != t840) a3_0 a3_1 l3_2 t841 t842 t843) else (laws_FnExactGateWait.j0 k true a3_0 a3_1 l3_2 t841 t842 t843))) = some r := H
    have A23 := Aside0.mk A230
    clear A230
    replace H := Option.bind_eq_some_iff.mp H
    obtain ⟨⟨t853, t854⟩, A240, H⟩ := H
    replace H : (if t853 = t839 then (laws_FnExactGateWait.j0 k (t854 != t840) a3_0 a3_1 l3_2 t841 t842 t843) else (laws_FnExactGateWait.j0 k true a3_0 a3_1 l3_2 t841 t842 t843)) = some r := H
    have A24 := Aside0.mk A240
    clear A240
    have HC25 := Aside0.mk H
    clear H
    go_enter Try.func7, Try.ntmps7
    try go_wp2_with (first | ((with_reducible refine gate_dst (N := 7) rfl ?_); refine box_event ?hg (N := 7) ?hd (cs := #[.bool a0_0, .int .i64 a0_1, .int .i64 a0_2, .int .i64 a0_3]) (t := 59) ?hr ?_; (case hd => rfl); (case hg => rfl); (case hr => first|(go_simp;done)|(go_simp;rfl)); intro gb824 hg w26 hbox hb; have n0_ := am_ (below_step (hb_ HB.out) hb); have n1_ := am_ (hbox); have n2_ := am_ (hy_ hg (hb_ HB.out) : w.heap.size ≤ gb824); have n3_ := am_ (hy_ hg (hb_ HB.out) : w.heap.size ≤ gb824); clear HB; have HB := n0_; have BK824 := n1_; have GW824 := n2_; have GE824 := n3_; clear n0_ n1_ n2_ n3_; clear hb hbox hg) | ((with_reducible refine gate_dst (N := 8) rfl ?_); refine box_event ?hg (N := 8) ?hd (cs := #[.int .i64 a1_0, .int .i64 a1_1]) (t := 25) ?hr ?_; (case hd => rfl); (case hg => rfl); (case hr => first|(go_simp;done)|(go_simp;rfl)); intro gb825 hg w27 hbox hb; have n0_ := am_ (bb_ BK824.out hb); have n1_ := am_ (below_step (hb1_ HB.out GE824.out) hb); have n2_ := am_ (hbox); have n3_ := am_ (hy_ hg (hb1_ HB.out GE824.out) : w.heap.size ≤ gb825); have n4_ := am_ (hy_ hg (hb1_ HB.out GE824.out) : w.heap.size ≤ gb825); have n5_ := am_ ((bl_ hg BK824.out : gb824 ≠ gb825)); have n6_ := am_ ((bg_ hg BK824.out : gb825 ≠ gb824)); clear BK824; clear HB; have BK824 := n0_; have HB := n1_; have BK825 := n2_; have GW825 := n3_; have GE825 := n4_; have NB824_825 := n5_; have NB825_824 := n6_; clear n0_ n1_ n2_ n3_ n4_ n5_ n6_; clear hb hbox hg) | ((with_reducible refine gate_dst (N := 10) rfl ?_); refine box_event ?hg (N := 10) ?hd (cs := #[.int .i64 a3_0, .int .i64 a3_1, .slice A3_2 l3_2.length c3_2]) (t := 28) ?hr ?_; (case hd => rfl); (case hg => rfl); (case hr => first|(go_simp;done)|(go_simp;rfl)); intro gb826 hg w28 hbox hb; have n0_ := am_ (bb_ BK824.out hb); have n1_ := am_ (bb_ BK825.out hb); have n2_ := am_ (below_step (hb2_ HB.out GE824.out GE825.out) hb); have n3_ := am_ (hbox); have n4_ := am_ (hy_ hg (hb2_ HB.out GE824.out GE825.out) : w.heap.size ≤ gb826); have n5_ := am_ (hy_ hg (hb2_ HB.out GE824.out GE825.out) : w.heap.size ≤ gb826); have n6_ := am_ ((bl_ hg BK824.out : gb824 ≠ gb826)); have n7_ := am_ ((bg_ hg BK824.out : gb826 ≠ gb824)); have n8_ := am_ ((bl_ hg BK825.out : gb825 ≠ gb826)); have n9_ := am_ ((bg_ hg BK825.out : gb826 ≠ gb825)); clear BK824; clear BK825; clear HB; have BK824 := n0_; have BK825 := n1_; have HB := n2_; have BK826 := n3_; have GW826 := n4_; have GE826 := n5_; have NB824_826 := n6_; have NB826_824 := n7_; have NB825_826 := n8_; have NB826_825 := n9_; clear n0_ n1_ n2_ n3_ n4_ n5_ n6_ n7_ n8_ n9_; clear hb hbox hg; have hnb29 := NB826_824.out; have hnc29 := NB824_826.out; have hnb30 := NB826_825.out; have hnc30 := NB825_826.out; have hcz31_0 := bc_ BK826.out 0 (.int .i64 a3_0) rfl; have hcz31_1 := bc_ BK826.out 1 (.int .i64 a3_1) rfl; have hcz31_2 := bc_ BK826.out 2 (.slice A3_2 l3_2.length c3_2) rfl; have hfz31_0 := blk_frozen BK826.out 0; have hfz31_1 := blk_frozen BK826.out 1; have hfz31_2 := blk_frozen BK826.out 2) | ((with_reducible refine gate_callee (f := 9) rfl ?_); refine goesL_ (some 23) rfl rfl Try.func9 (by kernel_rfl) rfl #[.agg #[.int .i64 a3_0, .int .i64 a3_1, .slice A3_2 l3_2.length c3_2], .int .i64 1048576] rfl arr_ ?_; (with_reducible refine (laws_szPlan.calls a3_0 a3_1 _ _ l3_2 1048576 t827 _ ?side1 ?side2 A8.out).mono ?_); (case side1 => exact kc_ (Kd.C_below HR3_2.out HB.out)); (case side2 => exact HC3_2.out); rintro e w32 ⟨rfl, hb⟩; refine ⟨_, rfl, ?_⟩; have n0_ := am_ (bb_ BK824.out hb); have n1_ := am_ (bb_ BK825.out hb); have n2_ := am_ (bb_ BK826.out hb); have n3_ := am_ (below_step (hb3_ HB.out GE824.out GE825.out GE826.out) hb); clear BK824; clear BK825; clear BK826; clear HB; have BK824 := n0_; have BK825 := n1_; have BK826 := n2_; have HB := n3_; clear n0_ n1_ n2_ n3_; (try clear hb); (try clear hb2); (try clear hk); (try clear hi)))
    have n0_ := am_ (blk_drew BK824.out)
    have n1_ := am_ (blk_drew BK825.out)
    have n2_ := am_ (blk_drew BK826.out)
    have n3_ := am_ (below_drew1 HB.out)
    clear BK824
    clear BK825
    clear BK826
    clear HB
    have BK824 := n0_
    have BK825 := n1_
    have BK826 := n2_
    have HB := n3_
    clear n0_ n1_ n2_ n3_
    refine start_ (n := 16) (S := fun w' => w'.cell? ⟨gb824, 0, none⟩ = some (.bool a0_0) ∧ w'.cell? ⟨gb824, 1, none⟩ = some (.int .i64 a0_1) ∧ w'.cell? ⟨gb824, 2, none⟩ = some (.int .i64 a0_2) ∧ w'.cell? ⟨gb824, 3, none⟩ = some (.int .i64 a0_3) ∧ w'.cell? ⟨gb825, 0, none⟩ = some (.int .i64 a1_0) ∧ w'.cell? ⟨gb825, 1, none⟩ = some (.int .i64 a1_1) ∧ w'.cell? ⟨gb826, 0, none⟩ = some (.int .i64 a3_0) ∧ w'.cell? ⟨gb826, 1, none⟩ = some (.int .i64 a3_1) ∧ w'.cell? ⟨gb826, 2, none⟩ = some (.slice A3_2 l3_2.length c3_2)) (ds := []) #[false, false, false, false, false, false, false, false, false, false, false, false, false, false, false, false] (by kernel_rfl) rfl rfl ⟨(blk_cell BK824.out 0).trans rfl, (blk_cell BK824.out 1).trans rfl, (blk_cell BK824.out 2).trans rfl, (blk_cell BK824.out 3).trans rfl, (blk_cell BK825.out 0).trans rfl, (blk_cell BK825.out 1).trans rfl, (blk_cell BK826.out 0).trans rfl, (blk_cell BK826.out 1).trans rfl, (blk_cell BK826.out 2).trans rfl⟩ (fun hHeld => ?_); refine with_tabW laws_FnExactGateWait.tab5 laws_FnExactGateWait.bits5 (fun HT_ HW_ => ?_)
    generalize w32.drew = w33 at BK824 BK825 BK826 HB hHeld ⊢
    refine pure_ (i := 4) (N := some 31) (v := ?_) (a' := ?_) #[false, false, false, false, true, false, false, false, false, false, false, false, false, false, false, false] rfl rfl (any_of HT_.out (by kernel_rfl)) (fun _ _ _ h => h) (Or.inl ⟨by rfl, ?_⟩) ?_ ?_
    rotate_left
    · intro w'
      go_simp
      with_reducible rfl
    rotate_left
    · simp only [Act.put, List.setIfInBounds_toArray, List.set_cons_zero, List.set_cons_succ, i64_w, i32_w]
      rfl
    refine pure_ (i := 7) (N := some 34) (v := ?_) (a' := ?_) #[false, false, false, false, true, false, false, true, false, false, false, false, false, false, false, false] rfl rfl (any_of HT_.out (by kernel_rfl)) (fun _ _ _ h => h) (Or.inl ⟨by rfl, ?_⟩) ?_ ?_
    rotate_left
    · intro w'
      go_simp
      with_reducible rfl
    rotate_left
    · simp only [Act.put, List.setIfInBounds_toArray, List.set_cons_zero, List.set_cons_succ, i64_w, i32_w]
      rfl
    refine pure_ (i := 8) (N := some 35) (v := ?_) (a' := ?_) #[false, false, false, false, true, false, false, true, true, false, false, false, false, false, false, false] rfl rfl (any_of HT_.out (by kernel_rfl)) (fun _ _ _ h => h) (Or.inl ⟨by rfl, ?_⟩) ?_ ?_
    rotate_left
    · intro w'
      go_simp
      with_reducible rfl
    rotate_left
    · simp only [Act.put, List.setIfInBounds_toArray, List.set_cons_zero, List.set_cons_succ, i64_w, i32_w]
      rfl
    refine pure_ (i := 9) (N := some 36) (v := ?_) (a' := ?_) #[false, false, false, false, true, false, false, true, true, true, false, false, false, false, false, false] rfl rfl (any_of HT_.out (by kernel_rfl)) (fun _ _ _ h => h) (Or.inl ⟨by rfl, ?_⟩) ?_ ?_
    rotate_left
    · intro w'
      go_simp
      with_reducible rfl
    rotate_left
    · simp only [Act.put, List.setIfInBounds_toArray, List.set_cons_zero, List.set_cons_succ, i64_w, i32_w]
      rfl
    refine take_ (i := 0) (N := some 27) (v := ?_) (a' := ?_) #[true, false, false, false, true, false, false, true, true, true, false, false, false, false, false, false] rfl rfl (take_ofW HT_.out HW_.out (by kernel_rfl)) (fun _ _ _ h => h) (Or.inl ⟨by rfl, ?_⟩) hHeld ?_ ?_
    rotate_left
    · rintro w' ⟨s0, s1, s2, s3, s4, s5, s6, s7, s8⟩
      go_simp
      with_reducible rfl
    rotate_left
    · simp only [Act.put, List.setIfInBounds_toArray, List.set_cons_zero, List.set_cons_succ, i64_w, i32_w]
      rfl
    refine take_ (i := 2) (N := some 29) (v := ?_) (a' := ?_) #[true, false, true, false, true, false, false, true, true, true, false, false, false, false, false, false] rfl rfl (take_ofW HT_.out HW_.out (by kernel_rfl)) (fun _ _ _ h => h) (Or.inl ⟨by rfl, ?_⟩) hHeld ?_ ?_
    rotate_left
    · rintro w' ⟨s0, s1, s2, s3, s4, s5, s6, s7, s8⟩
      go_simp
      with_reducible rfl
    rotate_left
    · simp only [Act.put, List.setIfInBounds_toArray, List.set_cons_zero, List.set_cons_succ, i64_w, i32_w]
      rfl
    refine take_ (i := 5) (N := some 32) (v := ?_) (a' := ?_) #[true, false, true, false, true, true, false, true, true, true, false, false, false, false, false, false] rfl rfl (take_ofW HT_.out HW_.out (by kernel_rfl)) (fun _ _ _ h => h) (Or.inl ⟨by rfl, ?_⟩) hHeld ?_ ?_
    rotate_left
    · rintro w' ⟨s0, s1, s2, s3, s4, s5, s6, s7, s8⟩
      go_simp
      with_reducible rfl
    rotate_left
    · simp only [Act.put, List.setIfInBounds_toArray, List.set_cons_zero, List.set_cons_succ, i64_w, i32_w]
      rfl
    refine one_ (i := 1) (N := some 28) #[true, true, true, false, true, true, false, true, true, true, false, false, false, false, false, false] rfl rfl (one_of HT_.out (by kernel_rfl)) (by decide) (fun K hK => ?_)
    refine goes_ Try.func29 (by kernel_rfl) rfl #[.agg #[.bool a0_0, .int .i64 a0_1, .int .i64 a0_2, .int .i64 a0_3]] (by rfl) rfl rfl arr_ ?_
    with_reducible refine (laws_toLocal.calls a0_0 a0_1 a0_2 a0_3 t828 t829 t830 t831 _ A17.out).mono ?_
    rintro e w34 ⟨rfl, hb⟩
    refine ⟨_, rfl, ?_⟩
    have n0_ := am_ (bb_ BK824.out hb)
    have n1_ := am_ (bb_ BK825.out hb)
    have n2_ := am_ (bb_ BK826.out hb)
    have n3_ := am_ (below_step (hb3_ HB.out GE824.out GE825.out GE826.out) hb)
    clear BK824
    clear BK825
    clear BK826
    clear HB
    have BK824 := n0_
    have BK825 := n1_
    have BK826 := n2_
    have HB := n3_
    clear n0_ n1_ n2_ n3_
    (try clear hb)
    (try clear hb2)
    (try clear hk)
    (try clear hi)
    refine hK.out _ _ ⟨(blk_cell BK824.out 0).trans rfl, (blk_cell BK824.out 1).trans rfl, (blk_cell BK824.out 2).trans rfl, (blk_cell BK824.out 3).trans rfl, (blk_cell BK825.out 0).trans rfl, (blk_cell BK825.out 1).trans rfl, (blk_cell BK826.out 0).trans rfl, (blk_cell BK826.out 1).trans rfl, (blk_cell BK826.out 2).trans rfl⟩ (fun hHeld => ?_)
    clear hK K
    refine norm_ (a' := ?_) ?_ ?_
    rotate_left
    · show Act.put _ (some 28) _ = _
      simp only [Act.put, List.setIfInBounds_toArray, List.set_cons_zero, List.set_cons_succ, i64_w, i32_w]
      rfl
    refine one_ (i := 3) (N := some 30) #[true, true, true, true, true, true, false, true, true, true, false, false, false, false, false, false] rfl rfl (one_of HT_.out (by kernel_rfl)) (by decide) (fun K hK => ?_)
    refine goes_ Try.func12 (by kernel_rfl) rfl #[.agg #[.int .i64 a1_0, .int .i64 a1_1]] (by rfl) rfl rfl arr_ ?_
    with_reducible refine (laws_toDrift.calls a1_0 a1_1 t832 t833 _ A18.out).mono ?_
    rintro e w35 ⟨rfl, hb⟩
    refine ⟨_, rfl, ?_⟩
    have n0_ := am_ (bb_ BK824.out hb)
    have n1_ := am_ (bb_ BK825.out hb)
    have n2_ := am_ (bb_ BK826.out hb)
    have n3_ := am_ (below_step (hb3_ HB.out GE824.out GE825.out GE826.out) hb)
    clear BK824
    clear BK825
    clear BK826
    clear HB
    have BK824 := n0_
    have BK825 := n1_
    have BK826 := n2_
    have HB := n3_
    clear n0_ n1_ n2_ n3_
    (try clear hb)
    (try clear hb2)
    (try clear hk)
    (try clear hi)
    refine hK.out _ _ ⟨(blk_cell BK824.out 0).trans rfl, (blk_cell BK824.out 1).trans rfl, (blk_cell BK824.out 2).trans rfl, (blk_cell BK824.out 3).trans rfl, (blk_cell BK825.out 0).trans rfl, (blk_cell BK825.out 1).trans rfl, (blk_cell BK826.out 0).trans rfl, (blk_cell BK826.out 1).trans rfl, (blk_cell BK826.out 2).trans rfl⟩ (fun hHeld => ?_)
    clear hK K
    refine norm_ (a' := ?_) ?_ ?_
    rotate_left
    · show Act.put _ (some 30) _ = _
      simp only [Act.put, List.setIfInBounds_toArray, List.set_cons_zero, List.set_cons_succ, i64_w, i32_w]
      rfl
    refine one_ (i := 6) (N := some 33) #[true, true, true, true, true, true, true, true, true, true, false, false, false, false, false, false] rfl rfl (one_of HT_.out (by kernel_rfl)) (by decide) (fun K hK => ?_)
    refine goes_ Try.func13 (by kernel_rfl) rfl #[.agg #[.int .i64 a3_0, .int .i64 a3_1, .slice A3_2 l3_2.length c3_2]] (by rfl) rfl rfl arr_ ?_
    with_reducible refine (laws_toPlan.calls k a3_0 a3_1 _ _ l3_2 t834 t835 t836 _ ?side1 ?side2 A19.out).mono ?_
    (case side1 => exact kc_ (Kd.C_below HR3_2.out HB.out))
    (case side2 => exact HC3_2.out)
    rintro e w36 ⟨v837, rfl, ho0, hb⟩
    refine ⟨_, rfl, ?_⟩
    have n0_ := am_ (Kd.R_lower ho0 (below_size (hb3_ HB.out GE824.out GE825.out GE826.out)))
    have n1_ := am_ (bb_ BK824.out hb)
    have n2_ := am_ (bb_ BK825.out hb)
    have n3_ := am_ (bb_ BK826.out hb)
    have n4_ := am_ (below_step (hb3_ HB.out GE824.out GE825.out GE826.out) hb)
    clear BK824
    clear BK825
    clear BK826
    clear HB
    have HO838 := n0_
    have BK824 := n1_
    have BK825 := n2_
    have BK826 := n3_
    have HB := n4_
    clear n0_ n1_ n2_ n3_ n4_
    (try clear hb)
    (try clear hb2)
    (try clear hk)
    (try clear hi)
    (try clear ho0)
    obtain ⟨Ao37, co37, eo37⟩ := Kd.R_slice HO838.out
    (first | subst eo37 | (injection eo37 with f1_ f2_ f3_; have f4_ := f1_.symm; have f5_ := f3_.symm; clear f1_ f2_ f3_; subst f4_; subst f5_))
    refine hK.out _ _ ⟨(blk_cell BK824.out 0).trans rfl, (blk_cell BK824.out 1).trans rfl, (blk_cell BK824.out 2).trans rfl, (blk_cell BK824.out 3).trans rfl, (blk_cell BK825.out 0).trans rfl, (blk_cell BK825.out 1).trans rfl, (blk_cell BK826.out 0).trans rfl, (blk_cell BK826.out 1).trans rfl, (blk_cell BK826.out 2).trans rfl⟩ (fun hHeld => ?_)
    clear hK K
    refine norm_ (a' := ?_) ?_ ?_
    rotate_left
    · show Act.put _ (some 33) _ = _
      simp only [Act.put, List.setIfInBounds_toArray, List.set_cons_zero, List.set_cons_succ, i64_w, i32_w]
      rfl
    refine one_ (i := 10) (N := some 37) #[true, true, true, true, true, true, true, true, true, true, true, false, false, false, false, false] rfl rfl (one_of HT_.out (by kernel_rfl)) (by decide) (fun K hK => ?_)
    refine goes_ Try.func28 (by kernel_rfl) rfl #[.agg #[.bool t828, .int .i64 t829, .int .i64 t830, .int .i64 t831], .agg #[.int .i64 t832, .int .i64 t833], .int .i64 a2, .agg #[.int .i64 t834, .int .i64 t835, .slice Ao37 t836.length co37], .int .i64 a4, .int .i64 a5, .int .i64 a6] (by rfl) rfl rfl arr_ ?_
    with_reducible refine (spec_GateWait.calls k t828 t829 t830 t831 t832 t833 a2 t834 t835 _ _ t836 a4 a5 a6 t839 t840 _ ?side1 ?side2 A20.out).mono ?_
    (case side1 => repeat (first | exact (Kd.R_reads' HO838.out).2.2 | (with_reducible refine Kd.C_alloc ?_ _) | (with_reducible refine Kd.C_drewN ?_ _) | (with_reducible refine Kd.C_drew ?_)))
    (case side2 => exact (Kd.R_reads' HO838.out).2.1)
    rintro e w38 ⟨rfl, hb⟩
    refine ⟨_, rfl, ?_⟩
    have n0_ := am_ (Kd.R_below (by (with_reducible repeat (first | apply Kd.R_alloc | apply Kd.R_drewN | apply Kd.R_drew)); exact HO838.out) hb)
    have n1_ := am_ (bb_ BK824.out hb)
    have n2_ := am_ (bb_ BK825.out hb)
    have n3_ := am_ (bb_ BK826.out hb)
    have n4_ := am_ (below_step (hb3_ HB.out GE824.out GE825.out GE826.out) hb)
    clear HO838
    clear BK824
    clear BK825
    clear BK826
    clear HB
    have HO838 := n0_
    have BK824 := n1_
    have BK825 := n2_
    have BK826 := n3_
    have HB := n4_
    clear n0_ n1_ n2_ n3_ n4_
    (try clear hb)
    (try clear hb2)
    (try clear hk)
    (try clear hi)
    refine hK.out _ _ ⟨(blk_cell BK824.out 0).trans rfl, (blk_cell BK824.out 1).trans rfl, (blk_cell BK824.out 2).trans rfl, (blk_cell BK824.out 3).trans rfl, (blk_cell BK825.out 0).trans rfl, (blk_cell BK825.out 1).trans rfl, (blk_cell BK826.out 0).trans rfl, (blk_cell BK826.out 1).trans rfl, (blk_cell BK826.out 2).trans rfl⟩ (fun hHeld => ?_)
    clear hK K
    refine norm_ (a' := ?_) ?_ ?_
    rotate_left
    · show Act.put _ (some 37) _ = _
      simp only [Act.put, List.setIfInBounds_toArray, List.set_cons_zero, List.set_cons_succ, i64_w, i32_w]
      rfl
    refine pure_ (i := 11) (N := some 26) (v := ?_) (a' := ?_) #[true, true, true, true, true, true, true, true, true, true, true, true, false, false, false, false] rfl rfl (any_of HT_.out (by kernel_rfl)) (fun _ _ _ h => h) (Or.inl ⟨by rfl, ?_⟩) ?_ ?_
    rotate_left
    · intro w'
      go_simp
      with_reducible rfl
    rotate_left
    · simp only [Act.put, List.setIfInBounds_toArray, List.set_cons_zero, List.set_cons_succ, i64_w, i32_w]
      rfl
    refine pure_ (i := 12) (N := some 38) (v := ?_) (a' := ?_) #[true, true, true, true, true, true, true, true, true, true, true, true, true, false, false, false] rfl rfl (any_of HT_.out (by kernel_rfl)) (fun _ _ _ h => h) (Or.inl ⟨by rfl, ?_⟩) ?_ ?_
    rotate_left
    · intro w'
      go_simp
      with_reducible rfl
    rotate_left
    · simp only [Act.put, List.setIfInBounds_toArray, List.set_cons_zero, List.set_cons_succ, i64_w, i32_w]
      rfl
    refine pure_ (i := 13) (N := some 39) (v := ?_) (a' := ?_) #[true, true, true, true, true, true, true, true, true, true, true, true, true, true, false, false] rfl rfl (any_of HT_.out (by kernel_rfl)) (fun _ _ _ h => h) (Or.inl ⟨by rfl, ?_⟩) ?_ ?_
    rotate_left
    · intro w'
      go_simp
      with_reducible rfl
    rotate_left
    · simp only [Act.put, List.setIfInBounds_toArray, List.set_cons_zero, List.set_cons_succ, i64_w, i32_w]
      rfl
    refine pure_ (i := 14) (N := some 16) (v := ?_) (a' := ?_) #[true, true, true, true, true, true, true, true, true, true, true, true, true, true, true, false] rfl rfl (any_of HT_.out (by kernel_rfl)) (fun _ _ _ h => h) (Or.inl ⟨by rfl, ?_⟩) ?_ ?_
    rotate_left
    · intro w'
      go_simp
      with_reducible rfl
    rotate_left
    · simp only [Act.put, List.setIfInBounds_toArray, List.set_cons_zero, List.set_cons_succ, i64_w, i32_w]
      rfl
    refine pure_ (i := 15) (N := some 17) (v := ?_) (a' := ?_) #[true, true, true, true, true, true, true, true, true, true, true, true, true, true, true, true] rfl rfl (any_of HT_.out (by kernel_rfl)) (fun _ _ _ h => h) (Or.inl ⟨by rfl, ?_⟩) ?_ ?_
    rotate_left
    · intro w'
      go_simp
      with_reducible rfl
    rotate_left
    · simp only [Act.put, List.setIfInBounds_toArray, List.set_cons_zero, List.set_cons_succ, i64_w, i32_w]
      rfl
    refine done_ (done_of HT_.out (by kernel_rfl)) ?_
    have hcz39_0 := bc_ BK826.out 0 (.int .i64 a3_0) rfl
    have hcz39_1 := bc_ BK826.out 1 (.int .i64 a3_1) rfl
    have hcz39_2 := bc_ BK826.out 2 (.slice A3_2 l3_2.length c3_2) rfl
    have hfz39_0 := blk_frozen BK826.out 0
    have hfz39_1 := blk_frozen BK826.out 1
    have hfz39_2 := blk_frozen BK826.out 2
    try go_wp2_with (first | ((with_reducible refine gate_callee (f := 13) rfl ?_); refine goesL_ (some 41) rfl rfl Try.func13 (by kernel_rfl) rfl #[.agg #[.int .i64 a3_0, .int .i64 a3_1, .slice A3_2 l3_2.length c3_2]] rfl arr_ ?_; (with_reducible refine (laws_toPlan.calls k a3_0 a3_1 _ _ l3_2 t841 t842 t843 _ ?side1 ?side2 A21.out).mono ?_); (case side1 => exact kc_ (Kd.C_below HR3_2.out HB.out)); (case side2 => exact HC3_2.out); rintro e w40 ⟨v844, rfl, ho0, hb⟩; refine ⟨_, rfl, ?_⟩; have n0_ := am_ (Kd.R_elder' (by (with_reducible repeat (first | apply Kd.R_alloc | apply Kd.R_drewN | apply Kd.R_drew)); exact HO838.out) (Kd.R_base ho0) hb); have n1_ := am_ (Kd.R_lower (Kd.R_new' ho0 (Kd.R_lt (by (with_reducible repeat (first | apply Kd.R_alloc | apply Kd.R_drewN | apply Kd.R_drew)); exact HO838.out))) (below_size (hb3_ HB.out GE824.out GE825.out GE826.out))); have n2_ := am_ (bb_ BK824.out hb); have n3_ := am_ (bb_ BK825.out hb); have n4_ := am_ (bb_ BK826.out hb); have n5_ := am_ (below_step (hb3_ HB.out GE824.out GE825.out GE826.out) hb); clear HO838; clear BK824; clear BK825; clear BK826; clear HB; have HO838 := n0_; have HO845 := n1_; have BK824 := n2_; have BK825 := n3_; have BK826 := n4_; have HB := n5_; clear n0_ n1_ n2_ n3_ n4_ n5_; (try clear hb); (try clear hb2); (try clear hk); (try clear hi); (try clear ho0)) | ((with_reducible refine gate_dst (N := 18) rfl ?_); refine box_event ?hg (N := 18) ?hd (cs := #[.int .i64 0, .int .i64 0, .slice none 0 0]) (t := 38) ?hr ?_; (case hd => rfl); (case hg => rfl); (case hr => first|(go_simp;done)|(go_simp;rfl)); intro gb846 hg w41 hbox hb; have n0_ := am_ (Kd.R_below (by (with_reducible repeat (first | apply Kd.R_alloc | apply Kd.R_drewN | apply Kd.R_drew)); exact HO838.out) hb); have n1_ := am_ (Kd.R_below (by (with_reducible repeat (first | apply Kd.R_alloc | apply Kd.R_drewN | apply Kd.R_drew)); exact HO845.out) hb); have n2_ := am_ (bb_ BK824.out hb); have n3_ := am_ (bb_ BK825.out hb); have n4_ := am_ (bb_ BK826.out hb); have n5_ := am_ (below_step (hb3_ HB.out GE824.out GE825.out GE826.out) hb); have n6_ := am_ (hbox); have n7_ := am_ (hy_ hg (hb3_ HB.out GE824.out GE825.out GE826.out) : w.heap.size ≤ gb846); have n8_ := am_ (hy_ hg (hb3_ HB.out GE824.out GE825.out GE826.out) : w.heap.size ≤ gb846); have n9_ := am_ ((bl_ hg BK824.out : gb824 ≠ gb846)); have n10_ := am_ ((bg_ hg BK824.out : gb846 ≠ gb824)); have n11_ := am_ ((bl_ hg BK825.out : gb825 ≠ gb846)); have n12_ := am_ ((bg_ hg BK825.out : gb846 ≠ gb825)); have n13_ := am_ ((bl_ hg BK826.out : gb826 ≠ gb846)); have n14_ := am_ ((bg_ hg BK826.out : gb846 ≠ gb826)); clear HO838; clear HO845; clear BK824; clear BK825; clear BK826; clear HB; have HO838 := n0_; have HO845 := n1_; have BK824 := n2_; have BK825 := n3_; have BK826 := n4_; have HB := n5_; have BK846 := n6_; have GW846 := n7_; have GE846 := n8_; have NB824_846 := n9_; have NB846_824 := n10_; have NB825_846 := n11_; have NB846_825 := n12_; have NB826_846 := n13_; have NB846_826 := n14_; clear n0_ n1_ n2_ n3_ n4_ n5_ n6_ n7_ n8_ n9_ n10_ n11_ n12_ n13_ n14_; clear hb hbox hg; have hnb42 := NB846_824.out; have hnc42 := NB824_846.out; have hnb43 := NB846_825.out; have hnc43 := NB825_846.out; have hnb44 := NB846_826.out; have hnc44 := NB826_846.out; have hcz45_0 := bc_ BK846.out 0 (.int .i64 0) rfl; have hcz45_1 := bc_ BK846.out 1 (.int .i64 0) rfl; have hcz45_2 := bc_ BK846.out 2 (.slice none 0 0) rfl; have hfz45_0 := blk_frozen BK846.out 0; have hfz45_1 := blk_frozen BK846.out 1; have hfz45_2 := blk_frozen BK846.out 2; obtain ⟨Ao46, co46, eo46⟩ := Kd.R_slice HO845.out; subst eo46))
    have n0_ : Aside0 (Kd.R k55 55 (((w41.setCell ⟨gb846, 0, none⟩ (.int .i64 t841)).setCell ⟨gb846, 1, none⟩ (.int .i64 t842)).setCell ⟨gb846, 2, none⟩ (.slice Ao46 t843.length co46)) w.heap.size (fun k_ => some k_ ≠ (.slice Ao46 t843.length co46 : Value).ownBlock) (.slice Ao37 t836.length co37) t836) := ⟨by (with_reducible repeat (first | apply Kd.R_alloc | apply Kd.R_drewN | apply Kd.R_drew)); exact Kd.R_mono (Kd.R_far (p := ⟨gb846, 2, none⟩) (Kd.R_far (p := ⟨gb846, 1, none⟩) (Kd.R_far (p := ⟨gb846, 0, none⟩) (Kd.R_types HO838.out BK846.out (by decide)) (fun _ hk => hk.2) (.int .i64 t841)) (fun _ hk => hk.2) (.int .i64 t842)) (fun _ hk => hk.2) (.slice Ao46 t843.length co46)) (fun _ hk => hk.1.2)⟩
    have n1_ : Aside0 (Kd.R k55 55 (((w41.setCell ⟨gb846, 0, none⟩ (.int .i64 t841)).setCell ⟨gb846, 1, none⟩ (.int .i64 t842)).setCell ⟨gb846, 2, none⟩ (.slice Ao46 t843.length co46)) w.heap.size (fun k_ => some k_ ≠ (.slice Ao37 t836.length co37 : Value).ownBlock) (.slice Ao46 t843.length co46) t843) := ⟨by (with_reducible repeat (first | apply Kd.R_alloc | apply Kd.R_drewN | apply Kd.R_drew)); exact Kd.R_mono (Kd.R_far (p := ⟨gb846, 2, none⟩) (Kd.R_far (p := ⟨gb846, 1, none⟩) (Kd.R_far (p := ⟨gb846, 0, none⟩) (Kd.R_types HO845.out BK846.out (by decide)) (fun _ hk => hk.2) (.int .i64 t841)) (fun _ hk => hk.2) (.int .i64 t842)) (fun _ hk => hk.2) (.slice Ao46 t843.length co46)) (fun _ hk => hk.1.2)⟩
    have n2_ : Aside0 ((((w41.setCell ⟨gb846, 0, none⟩ (.int .i64 t841)).setCell ⟨gb846, 1, none⟩ (.int .i64 t842)).setCell ⟨gb846, 2, none⟩ (.slice Ao46 t843.length co46)).heap[gb824]? = some (.cells #[.bool a0_0, .int .i64 a0_1, .int .i64 a0_2, .int .i64 a0_3] 59 (0, 0))) := ⟨by (with_reducible repeat (first | refine blk_drewN ?_ _ | refine blk_drew ?_ | refine blk_alloc ?_ _)); refine blk_far ?_ NB824_846.out _; (with_reducible repeat (first | refine blk_drewN ?_ _ | refine blk_drew ?_ | refine blk_alloc ?_ _)); refine blk_far ?_ NB824_846.out _; (with_reducible repeat (first | refine blk_drewN ?_ _ | refine blk_drew ?_ | refine blk_alloc ?_ _)); refine blk_far ?_ NB824_846.out _; (with_reducible repeat (first | refine blk_drewN ?_ _ | refine blk_drew ?_ | refine blk_alloc ?_ _)); exact BK824.out⟩
    have n3_ : Aside0 ((((w41.setCell ⟨gb846, 0, none⟩ (.int .i64 t841)).setCell ⟨gb846, 1, none⟩ (.int .i64 t842)).setCell ⟨gb846, 2, none⟩ (.slice Ao46 t843.length co46)).heap[gb825]? = some (.cells #[.int .i64 a1_0, .int .i64 a1_1] 25 (0, 0))) := ⟨by (with_reducible repeat (first | refine blk_drewN ?_ _ | refine blk_drew ?_ | refine blk_alloc ?_ _)); refine blk_far ?_ NB825_846.out _; (with_reducible repeat (first | refine blk_drewN ?_ _ | refine blk_drew ?_ | refine blk_alloc ?_ _)); refine blk_far ?_ NB825_846.out _; (with_reducible repeat (first | refine blk_drewN ?_ _ | refine blk_drew ?_ | refine blk_alloc ?_ _)); refine blk_far ?_ NB825_846.out _; (with_reducible repeat (first | refine blk_drewN ?_ _ | refine blk_drew ?_ | refine blk_alloc ?_ _)); exact BK825.out⟩
    have n4_ : Aside0 ((((w41.setCell ⟨gb846, 0, none⟩ (.int .i64 t841)).setCell ⟨gb846, 1, none⟩ (.int .i64 t842)).setCell ⟨gb846, 2, none⟩ (.slice Ao46 t843.length co46)).heap[gb826]? = some (.cells #[.int .i64 a3_0, .int .i64 a3_1, .slice A3_2 l3_2.length c3_2] 28 (0, 0))) := ⟨by (with_reducible repeat (first | refine blk_drewN ?_ _ | refine blk_drew ?_ | refine blk_alloc ?_ _)); refine blk_far ?_ NB826_846.out _; (with_reducible repeat (first | refine blk_drewN ?_ _ | refine blk_drew ?_ | refine blk_alloc ?_ _)); refine blk_far ?_ NB826_846.out _; (with_reducible repeat (first | refine blk_drewN ?_ _ | refine blk_drew ?_ | refine blk_alloc ?_ _)); refine blk_far ?_ NB826_846.out _; (with_reducible repeat (first | refine blk_drewN ?_ _ | refine blk_drew ?_ | refine blk_alloc ?_ _)); exact BK826.out⟩
    have n5_ : Aside0 ((((w41.setCell ⟨gb846, 0, none⟩ (.int .i64 t841)).setCell ⟨gb846, 1, none⟩ (.int .i64 t842)).setCell ⟨gb846, 2, none⟩ (.slice Ao46 t843.length co46)).heap[gb846]? = some (.cells #[.int .i64 t841, .int .i64 t842, .slice Ao46 t843.length co46] 38 (0, 0))) := ⟨by (with_reducible repeat (first | refine blk_drewN ?_ _ | refine blk_drew ?_ | refine blk_alloc ?_ _)); refine blk_put (cs := #[.int .i64 t841, .int .i64 t842, .slice none 0 0]) ?_ 2 _ rfl; (with_reducible repeat (first | refine blk_drewN ?_ _ | refine blk_drew ?_ | refine blk_alloc ?_ _)); refine blk_put (cs := #[.int .i64 t841, .int .i64 0, .slice none 0 0]) ?_ 1 _ rfl; (with_reducible repeat (first | refine blk_drewN ?_ _ | refine blk_drew ?_ | refine blk_alloc ?_ _)); refine blk_put (cs := #[.int .i64 0, .int .i64 0, .slice none 0 0]) ?_ 0 _ rfl; (with_reducible repeat (first | refine blk_drewN ?_ _ | refine blk_drew ?_ | refine blk_alloc ?_ _)); exact BK846.out⟩
    have n6_ : Aside0 (Below w.heap.size w (((w41.setCell ⟨gb846, 0, none⟩ (.int .i64 t841)).setCell ⟨gb846, 1, none⟩ (.int .i64 t842)).setCell ⟨gb846, 2, none⟩ (.slice Ao46 t843.length co46))) := ⟨hb4_ HB.out GE824.out GE825.out GE826.out GE846.out⟩
    (try clear HO838)
    (try clear HO845)
    (try clear BK824)
    (try clear BK825)
    (try clear BK826)
    (try clear BK846)
    (try clear HB)
    generalize (((w41.setCell ⟨gb846, 0, none⟩ (.int .i64 t841)).setCell ⟨gb846, 1, none⟩ (.int .i64 t842)).setCell ⟨gb846, 2, none⟩ (.slice Ao46 t843.length co46)) = w47 at n0_ n1_ n2_ n3_ n4_ n5_ n6_ ⊢
    have HO838 := n0_
    have HO845 := n1_
    have BK824 := n2_
    have BK825 := n3_
    have BK826 := n4_
    have BK846 := n5_
    have HB := n6_
    clear n0_ n1_ n2_ n3_ n4_ n5_ n6_
    have n0_ := am_ (Kd.R_drew HO838.out)
    have n1_ := am_ (Kd.R_drew HO845.out)
    have n2_ := am_ (blk_drew BK824.out)
    have n3_ := am_ (blk_drew BK825.out)
    have n4_ := am_ (blk_drew BK826.out)
    have n5_ := am_ (blk_drew BK846.out)
    have n6_ := am_ (below_drew1 HB.out)
    clear HO838
    clear HO845
    clear BK824
    clear BK825
    clear BK826
    clear BK846
    clear HB
    have HO838 := n0_
    have HO845 := n1_
    have BK824 := n2_
    have BK825 := n3_
    have BK826 := n4_
    have BK846 := n5_
    have HB := n6_
    clear n0_ n1_ n2_ n3_ n4_ n5_ n6_
    refine start_ (n := 15) (S := fun w' => w'.cell? ⟨gb824, 0, none⟩ = some (.bool a0_0) ∧ w'.cell? ⟨gb824, 1, none⟩ = some (.int .i64 a0_1) ∧ w'.cell? ⟨gb824, 2, none⟩ = some (.int .i64 a0_2) ∧ w'.cell? ⟨gb824, 3, none⟩ = some (.int .i64 a0_3) ∧ w'.cell? ⟨gb825, 0, none⟩ = some (.int .i64 a1_0) ∧ w'.cell? ⟨gb825, 1, none⟩ = some (.int .i64 a1_1) ∧ w'.cell? ⟨gb846, 0, none⟩ = some (.int .i64 t841) ∧ w'.cell? ⟨gb846, 1, none⟩ = some (.int .i64 t842) ∧ w'.cell? ⟨gb846, 2, none⟩ = some (.slice Ao46 t843.length co46)) (ds := []) #[false, false, false, false, false, false, false, false, false, false, false, false, false, false, false] (by kernel_rfl) rfl rfl ⟨(blk_cell BK824.out 0).trans rfl, (blk_cell BK824.out 1).trans rfl, (blk_cell BK824.out 2).trans rfl, (blk_cell BK824.out 3).trans rfl, (blk_cell BK825.out 0).trans rfl, (blk_cell BK825.out 1).trans rfl, (blk_cell BK846.out 0).trans rfl, (blk_cell BK846.out 1).trans rfl, (blk_cell BK846.out 2).trans rfl⟩ (fun hHeld => ?_); refine with_tabW laws_FnExactGateWait.tab7 laws_FnExactGateWait.bits7 (fun HT_ HW_ => ?_)
    generalize w47.drew = w48 at HO838 HO845 BK824 BK825 BK826 BK846 HB hHeld ⊢
    refine pure_ (i := 4) (N := some 47) (v := ?_) (a' := ?_) #[false, false, false, false, true, false, false, false, false, false, false, false, false, false, false] rfl rfl (any_of HT_.out (by kernel_rfl)) (fun _ _ _ h => h) (Or.inl ⟨by rfl, ?_⟩) ?_ ?_
    rotate_left
    · intro w'
      go_simp
      with_reducible rfl
    rotate_left
    · simp only [Act.put, List.setIfInBounds_toArray, List.set_cons_zero, List.set_cons_succ, i64_w, i32_w]
      rfl
    refine pure_ (i := 6) (N := some 49) (v := ?_) (a' := ?_) #[false, false, false, false, true, false, true, false, false, false, false, false, false, false, false] rfl rfl (any_of HT_.out (by kernel_rfl)) (fun _ _ _ h => h) (Or.inl ⟨by rfl, ?_⟩) ?_ ?_
    rotate_left
    · intro w'
      go_simp
      with_reducible rfl
    rotate_left
    · simp only [Act.put, List.setIfInBounds_toArray, List.set_cons_zero, List.set_cons_succ, i64_w, i32_w]
      rfl
    refine pure_ (i := 7) (N := some 50) (v := ?_) (a' := ?_) #[false, false, false, false, true, false, true, true, false, false, false, false, false, false, false] rfl rfl (any_of HT_.out (by kernel_rfl)) (fun _ _ _ h => h) (Or.inl ⟨by rfl, ?_⟩) ?_ ?_
    rotate_left
    · intro w'
      go_simp
      with_reducible rfl
    rotate_left
    · simp only [Act.put, List.setIfInBounds_toArray, List.set_cons_zero, List.set_cons_succ, i64_w, i32_w]
      rfl
    refine pure_ (i := 8) (N := some 51) (v := ?_) (a' := ?_) #[false, false, false, false, true, false, true, true, true, false, false, false, false, false, false] rfl rfl (any_of HT_.out (by kernel_rfl)) (fun _ _ _ h => h) (Or.inl ⟨by rfl, ?_⟩) ?_ ?_
    rotate_left
    · intro w'
      go_simp
      with_reducible rfl
    rotate_left
    · simp only [Act.put, List.setIfInBounds_toArray, List.set_cons_zero, List.set_cons_succ, i64_w, i32_w]
      rfl
    refine take_ (i := 0) (N := some 43) (v := ?_) (a' := ?_) #[true, false, false, false, true, false, true, true, true, false, false, false, false, false, false] rfl rfl (take_ofW HT_.out HW_.out (by kernel_rfl)) (fun _ _ _ h => h) (Or.inl ⟨by rfl, ?_⟩) hHeld ?_ ?_
    rotate_left
    · rintro w' ⟨s0, s1, s2, s3, s4, s5, s6, s7, s8⟩
      go_simp
      with_reducible rfl
    rotate_left
    · simp only [Act.put, List.setIfInBounds_toArray, List.set_cons_zero, List.set_cons_succ, i64_w, i32_w]
      rfl
    refine take_ (i := 2) (N := some 45) (v := ?_) (a' := ?_) #[true, false, true, false, true, false, true, true, true, false, false, false, false, false, false] rfl rfl (take_ofW HT_.out HW_.out (by kernel_rfl)) (fun _ _ _ h => h) (Or.inl ⟨by rfl, ?_⟩) hHeld ?_ ?_
    rotate_left
    · rintro w' ⟨s0, s1, s2, s3, s4, s5, s6, s7, s8⟩
      go_simp
      with_reducible rfl
    rotate_left
    · simp only [Act.put, List.setIfInBounds_toArray, List.set_cons_zero, List.set_cons_succ, i64_w, i32_w]
      rfl
    refine take_ (i := 5) (N := some 48) (v := ?_) (a' := ?_) #[true, false, true, false, true, true, true, true, true, false, false, false, false, false, false] rfl rfl (take_ofW HT_.out HW_.out (by kernel_rfl)) (fun _ _ _ h => h) (Or.inl ⟨by rfl, ?_⟩) hHeld ?_ ?_
    rotate_left
    · rintro w' ⟨s0, s1, s2, s3, s4, s5, s6, s7, s8⟩
      go_simp
      with_reducible rfl
    rotate_left
    · simp only [Act.put, List.setIfInBounds_toArray, List.set_cons_zero, List.set_cons_succ, i64_w, i32_w]
      rfl
    refine one_ (i := 1) (N := some 44) #[true, true, true, false, true, true, true, true, true, false, false, false, false, false, false] rfl rfl (one_of HT_.out (by kernel_rfl)) (by decide) (fun K hK => ?_)
    refine goes_ Try.func29 (by kernel_rfl) rfl #[.agg #[.bool a0_0, .int .i64 a0_1, .int .i64 a0_2, .int .i64 a0_3]] (by rfl) rfl rfl arr_ ?_
    with_reducible refine (laws_toLocal.calls a0_0 a0_1 a0_2 a0_3 t847 t848 t849 t850 _ A22.out).mono ?_
    rintro e w49 ⟨rfl, hb⟩
    refine ⟨_, rfl, ?_⟩
    have n0_ := am_ (Kd.R_below (by (with_reducible repeat (first | apply Kd.R_alloc | apply Kd.R_drewN | apply Kd.R_drew)); exact HO838.out) hb)
    have n1_ := am_ (Kd.R_below (by (with_reducible repeat (first | apply Kd.R_alloc | apply Kd.R_drewN | apply Kd.R_drew)); exact HO845.out) hb)
    have n2_ := am_ (bb_ BK824.out hb)
    have n3_ := am_ (bb_ BK825.out hb)
    have n4_ := am_ (bb_ BK826.out hb)
    have n5_ := am_ (bb_ BK846.out hb)
    have n6_ := am_ (below_step (hb4_ HB.out GE824.out GE825.out GE826.out GE846.out) hb)
    clear HO838
    clear HO845
    clear BK824
    clear BK825
    clear BK826
    clear BK846
    clear HB
    have HO838 := n0_
    have HO845 := n1_
    have BK824 := n2_
    have BK825 := n3_
    have BK826 := n4_
    have BK846 := n5_
    have HB := n6_
    clear n0_ n1_ n2_ n3_ n4_ n5_ n6_
    (try clear hb)
    (try clear hb2)
    (try clear hk)
    (try clear hi)
    refine hK.out _ _ ⟨(blk_cell BK824.out 0).trans rfl, (blk_cell BK824.out 1).trans rfl, (blk_cell BK824.out 2).trans rfl, (blk_cell BK824.out 3).trans rfl, (blk_cell BK825.out 0).trans rfl, (blk_cell BK825.out 1).trans rfl, (blk_cell BK846.out 0).trans rfl, (blk_cell BK846.out 1).trans rfl, (blk_cell BK846.out 2).trans rfl⟩ (fun hHeld => ?_)
    clear hK K
    refine norm_ (a' := ?_) ?_ ?_
    rotate_left
    · show Act.put _ (some 44) _ = _
      simp only [Act.put, List.setIfInBounds_toArray, List.set_cons_zero, List.set_cons_succ, i64_w, i32_w]
      rfl
    refine one_ (i := 3) (N := some 46) #[true, true, true, true, true, true, true, true, true, false, false, false, false, false, false] rfl rfl (one_of HT_.out (by kernel_rfl)) (by decide) (fun K hK => ?_)
    refine goes_ Try.func12 (by kernel_rfl) rfl #[.agg #[.int .i64 a1_0, .int .i64 a1_1]] (by rfl) rfl rfl arr_ ?_
    with_reducible refine (laws_toDrift.calls a1_0 a1_1 t851 t852 _ A23.out).mono ?_
    rintro e w50 ⟨rfl, hb⟩
    refine ⟨_, rfl, ?_⟩
    have n0_ := am_ (Kd.R_below (by (with_reducible repeat (first | apply Kd.R_alloc | apply Kd.R_drewN | apply Kd.R_drew)); exact HO838.out) hb)
    have n1_ := am_ (Kd.R_below (by (with_reducible repeat (first | apply Kd.R_alloc | apply Kd.R_drewN | apply Kd.R_drew)); exact HO845.out) hb)
    have n2_ := am_ (bb_ BK824.out hb)
    have n3_ := am_ (bb_ BK825.out hb)
    have n4_ := am_ (bb_ BK826.out hb)
    have n5_ := am_ (bb_ BK846.out hb)
    have n6_ := am_ (below_step (hb4_ HB.out GE824.out GE825.out GE826.out GE846.out) hb)
    clear HO838
    clear HO845
    clear BK824
    clear BK825
    clear BK826
    clear BK846
    clear HB
    have HO838 := n0_
    have HO845 := n1_
    have BK824 := n2_
    have BK825 := n3_
    have BK826 := n4_
    have BK846 := n5_
    have HB := n6_
    clear n0_ n1_ n2_ n3_ n4_ n5_ n6_
    (try clear hb)
    (try clear hb2)
    (try clear hk)
    (try clear hi)
    refine hK.out _ _ ⟨(blk_cell BK824.out 0).trans rfl, (blk_cell BK824.out 1).trans rfl, (blk_cell BK824.out 2).trans rfl, (blk_cell BK824.out 3).trans rfl, (blk_cell BK825.out 0).trans rfl, (blk_cell BK825.out 1).trans rfl, (blk_cell BK846.out 0).trans rfl, (blk_cell BK846.out 1).trans rfl, (blk_cell BK846.out 2).trans rfl⟩ (fun hHeld => ?_)
    clear hK K
    refine norm_ (a' := ?_) ?_ ?_
    rotate_left
    · show Act.put _ (some 46) _ = _
      simp only [Act.put, List.setIfInBounds_toArray, List.set_cons_zero, List.set_cons_succ, i64_w, i32_w]
      rfl
    refine one_ (i := 9) (N := some 52) #[true, true, true, true, true, true, true, true, true, true, false, false, false, false, false] rfl rfl (one_of HT_.out (by kernel_rfl)) (by decide) (fun K hK => ?_)
    refine goes_ Try.func30 (by kernel_rfl) rfl #[.agg #[.bool t847, .int .i64 t848, .int .i64 t849, .int .i64 t850], .agg #[.int .i64 t851, .int .i64 t852], .int .i64 a2, .agg #[.int .i64 t841, .int .i64 t842, .slice Ao46 t843.length co46], .int .i64 a4, .int .i64 a5, .int .i64 a6] (by rfl) rfl rfl arr_ ?_
    with_reducible refine (impl_GateWait.calls k t847 t848 t849 t850 t851 t852 a2 t841 t842 _ _ t843 a4 a5 a6 t853 t854 _ ?side1 ?side2 A24.out).mono ?_
    (case side1 => repeat (first | exact (Kd.R_reads' HO845.out).2.2 | (with_reducible refine Kd.C_alloc ?_ _) | (with_reducible refine Kd.C_drewN ?_ _) | (with_reducible refine Kd.C_drew ?_)))
    (case side2 => exact (Kd.R_reads' HO845.out).2.1)
    rintro e w51 ⟨rfl, hb⟩
    refine ⟨_, rfl, ?_⟩
    have n0_ := am_ (Kd.R_below (by (with_reducible repeat (first | apply Kd.R_alloc | apply Kd.R_drewN | apply Kd.R_drew)); exact HO838.out) hb)
    have n1_ := am_ (Kd.R_below (by (with_reducible repeat (first | apply Kd.R_alloc | apply Kd.R_drewN | apply Kd.R_drew)); exact HO845.out) hb)
    have n2_ := am_ (bb_ BK824.out hb)
    have n3_ := am_ (bb_ BK825.out hb)
    have n4_ := am_ (bb_ BK826.out hb)
    have n5_ := am_ (bb_ BK846.out hb)
    have n6_ := am_ (below_step (hb4_ HB.out GE824.out GE825.out GE826.out GE846.out) hb)
    clear HO838
    clear HO845
    clear BK824
    clear BK825
    clear BK826
    clear BK846
    clear HB
    have HO838 := n0_
    have HO845 := n1_
    have BK824 := n2_
    have BK825 := n3_
    have BK826 := n4_
    have BK846 := n5_
    have HB := n6_
    clear n0_ n1_ n2_ n3_ n4_ n5_ n6_
    (try clear hb)
    (try clear hb2)
    (try clear hk)
    (try clear hi)
    refine hK.out _ _ ⟨(blk_cell BK824.out 0).trans rfl, (blk_cell BK824.out 1).trans rfl, (blk_cell BK824.out 2).trans rfl, (blk_cell BK824.out 3).trans rfl, (blk_cell BK825.out 0).trans rfl, (blk_cell BK825.out 1).trans rfl, (blk_cell BK846.out 0).trans rfl, (blk_cell BK846.out 1).trans rfl, (blk_cell BK846.out 2).trans rfl⟩ (fun hHeld => ?_)
    clear hK K
    refine norm_ (a' := ?_) ?_ ?_
    rotate_left
    · show Act.put _ (some 52) _ = _
      simp only [Act.put, List.setIfInBounds_toArray, List.set_cons_zero, List.set_cons_succ, i64_w, i32_w]
      rfl
    refine pure_ (i := 10) (N := some 42) (v := ?_) (a' := ?_) #[true, true, true, true, true, true, true, true, true, true, true, false, false, false, false] rfl rfl (any_of HT_.out (by kernel_rfl)) (fun _ _ _ h => h) (Or.inl ⟨by rfl, ?_⟩) ?_ ?_
    rotate_left
    · intro w'
      go_simp
      with_reducible rfl
    rotate_left
    · simp only [Act.put, List.setIfInBounds_toArray, List.set_cons_zero, List.set_cons_succ, i64_w, i32_w]
      rfl
    refine pure_ (i := 11) (N := some 53) (v := ?_) (a' := ?_) #[true, true, true, true, true, true, true, true, true, true, true, true, false, false, false] rfl rfl (any_of HT_.out (by kernel_rfl)) (fun _ _ _ h => h) (Or.inl ⟨by rfl, ?_⟩) ?_ ?_
    rotate_left
    · intro w'
      go_simp
      with_reducible rfl
    rotate_left
    · simp only [Act.put, List.setIfInBounds_toArray, List.set_cons_zero, List.set_cons_succ, i64_w, i32_w]
      rfl
    refine pure_ (i := 12) (N := some 54) (v := ?_) (a' := ?_) #[true, true, true, true, true, true, true, true, true, true, true, true, true, false, false] rfl rfl (any_of HT_.out (by kernel_rfl)) (fun _ _ _ h => h) (Or.inl ⟨by rfl, ?_⟩) ?_ ?_
    rotate_left
    · intro w'
      go_simp
      with_reducible rfl
    rotate_left
    · simp only [Act.put, List.setIfInBounds_toArray, List.set_cons_zero, List.set_cons_succ, i64_w, i32_w]
      rfl
    refine pure_ (i := 13) (N := some 19) (v := ?_) (a' := ?_) #[true, true, true, true, true, true, true, true, true, true, true, true, true, true, false] rfl rfl (any_of HT_.out (by kernel_rfl)) (fun _ _ _ h => h) (Or.inl ⟨by rfl, ?_⟩) ?_ ?_
    rotate_left
    · intro w'
      go_simp
      with_reducible rfl
    rotate_left
    · simp only [Act.put, List.setIfInBounds_toArray, List.set_cons_zero, List.set_cons_succ, i64_w, i32_w]
      rfl
    refine pure_ (i := 14) (N := some 20) (v := ?_) (a' := ?_) #[true, true, true, true, true, true, true, true, true, true, true, true, true, true, true] rfl rfl (any_of HT_.out (by kernel_rfl)) (fun _ _ _ h => h) (Or.inl ⟨by rfl, ?_⟩) ?_ ?_
    rotate_left
    · intro w'
      go_simp
      with_reducible rfl
    rotate_left
    · simp only [Act.put, List.setIfInBounds_toArray, List.set_cons_zero, List.set_cons_succ, i64_w, i32_w]
      rfl
    refine done_ (done_of HT_.out (by kernel_rfl)) ?_
    go_upto_region 8 with (fail)
    go_cut [62] (fun v62 wc => ∃ (kq : Nat) (x62_24 : Bool), v62 = .bool x62_24 ∧ Aside0 (laws_FnExactGateWait.j0 kq x62_24 a3_0 a3_1 l3_2 t841 t842 t843 = some r) ∧ Aside0 (kq ≤ k) ∧ Aside0 (Kd.R k55 55 wc w.heap.size (fun _ => True) (.slice Ao46 t843.length co46) t843) ∧ Aside0 (wc.heap[gb824]? = some (.cells #[.bool a0_0, .int .i64 a0_1, .int .i64 a0_2, .int .i64 a0_3] 59 (0, 0))) ∧ Aside0 (wc.heap[gb825]? = some (.cells #[.int .i64 a1_0, .int .i64 a1_1] 25 (0, 0))) ∧ Aside0 (wc.heap[gb826]? = some (.cells #[.int .i64 a3_0, .int .i64 a3_1, (.slice A3_2 l3_2.length c3_2)] 28 (0, 0))) ∧ Aside0 (wc.heap[gb846]? = some (.cells #[.int .i64 t841, .int .i64 t842, (.slice Ao46 t843.length co46)] 38 (0, 0))) ∧ Aside0 (Below w.heap.size w wc))
    case first =>
      have H := HC25.out
      clear HC25
      by_cases c52 : t853 = t839
      · rw [if_pos c52] at H
        have c52b0 : (t853 == t839) = true := beq_iff_eq.mpr c52
        have c52b1 : (t853 != t839) = false := bne_eq_false_iff_eq.mpr c52
        clear c52
        (first | rw [c52b0] | (simp only [i64_w, i32_w]; rw [c52b0]) | skip)
        have H' := Aside0.mk H
        clear H
        go_wp2
        go_meet
        case rel => exact ⟨_, ((t854 != t840)), (by first | rfl | (simp; done) | (simp [*]; done)), H', ⟨by first | omega | exact Nat.le_refl _⟩, ⟨by (with_reducible repeat (first | apply Kd.R_alloc | apply Kd.R_drewN | apply Kd.R_drew)); exact Kd.R_mono HO845.out (fun _ hk => trivial)⟩, ⟨bk_ BK824.out⟩, ⟨bk_ BK825.out⟩, ⟨bk_ BK826.out⟩, ⟨bk_ BK846.out⟩, ⟨hb4_ HB.out GE824.out GE825.out GE826.out GE846.out⟩⟩
      · rw [if_neg c52] at H
        have c52b0 : (t853 == t839) = false := beq_eq_false_iff_ne.mpr c52
        have c52b1 : (t853 != t839) = true := bne_iff_ne.mpr c52
        (first | rw [c52b0] | (simp only [i64_w, i32_w]; rw [c52b0]) | skip)
        have H' := Aside0.mk H
        clear H
        go_wp2
        go_meet
        case rel => exact ⟨_, (true), (by first | rfl | (simp; done) | (simp [*]; done)), H', ⟨by first | omega | exact Nat.le_refl _⟩, ⟨by (with_reducible repeat (first | apply Kd.R_alloc | apply Kd.R_drewN | apply Kd.R_drew)); exact Kd.R_mono HO845.out (fun _ hk => trivial)⟩, ⟨bk_ BK824.out⟩, ⟨bk_ BK825.out⟩, ⟨bk_ BK826.out⟩, ⟨bk_ BK846.out⟩, ⟨hb4_ HB.out GE824.out GE825.out GE826.out GE846.out⟩⟩
    case rest =>
      clear HC25
      try clear c1
      try clear c2
      try clear p2
      try clear c3
      try clear c4
      try clear c5
      try clear c7
      try clear c9
      try clear c9b0
      try clear c12
      try clear c13
      try clear c14
      try clear c28
      try clear c29
      try clear c30
      try clear c42
      try clear c43
      try clear c44
      try clear c52
      try clear c52b0
      try clear c52b1
      try clear hcz15_0
      try clear hcz15_1
      try clear hcz15_2
      try clear hcz31_0
      try clear hcz31_1
      try clear hcz31_2
      try clear hcz39_0
      try clear hcz39_1
      try clear hcz39_2
      try clear hcz45_0
      try clear hcz45_1
      try clear hcz45_2
      try clear hfz15_0
      try clear hfz15_1
      try clear hfz15_2
      try clear hfz31_0
      try clear hfz31_1
      try clear hfz31_2
      try clear hfz39_0
      try clear hfz39_1
      try clear hfz39_2
      try clear hfz45_0
      try clear hfz45_1
      try clear hfz45_2
      obtain ⟨kq, x62_24, rfl, HA, HJ24, HO_847002, BK824, BK825, BK826, BK846, HB⟩ := hcut
      cases kq with
      | zero => exact absurd HA.out (by simp [laws_FnExactGateWait.j0])
      | succ kj24 =>
        have H := HA.out
        clear HA
        simp only [laws_FnExactGateWait.j0] at H
        by_cases c53 : x62_24 = true
        · subst c53
          have H1 : (some false) = some r := by rw [if_pos rfl] at H; exact H
          clear H
          have H := H1
          clear H1
          obtain rfl := Option.some.inj H
          exact absurd hr_ (by decide)
        · replace c53 := Bool.eq_false_iff.mpr c53
          subst c53
          have H1 : ((laws_toPlan.f kj24 a3_0 a3_1 l3_2).bind fun bt855 => ((laws_eqPlan.f kj24 t841 t842 t843 bt855.1 bt855.2.1 bt855.2.2).bind fun t860 => (if t860 = true then (some true) else (some false)))) = some r := by rw [if_neg (show ¬ (false = true) by decide)] at H; exact H
          clear H
          have H := H1
          clear H1
          replace H := Option.bind_eq_some_iff.mp H
          obtain ⟨⟨t855, t856, t857⟩, A540, H⟩ := H
          replace H : ((laws_eqPlan.f kj24 t841 t842 t843 t855 t856 t857).bind fun t860 => (if t860 = true then (some true) else (some false))) = some r := H
          have A54 := Aside0.mk A540
          clear A540
          replace H := Option.bind_eq_some_iff.mp H
          obtain ⟨t860, A550, H⟩ := H
          replace H : (if t860 = true then (some true) else (some false)) = some r := H
          have A55 := Aside0.mk A550
          clear A550
          by_cases c56 : t860 = true
          · subst c56
            have H1 : (some true) = some r := by rw [if_pos rfl] at H; exact H
            clear H
            have H := H1
            clear H1
            obtain rfl := Option.some.inj H
            try go_wp2
            have n0_ := am_ (Kd.R_drew HO_847002.out)
            have n1_ := am_ (blk_drew BK824.out)
            have n2_ := am_ (blk_drew BK825.out)
            have n3_ := am_ (blk_drew BK826.out)
            have n4_ := am_ (blk_drew BK846.out)
            have n5_ := am_ (below_drew1 HB.out)
            clear HO_847002
            clear BK824
            clear BK825
            clear BK826
            clear BK846
            clear HB
            have HO_847002 := n0_
            have BK824 := n1_
            have BK825 := n2_
            have BK826 := n3_
            have BK846 := n4_
            have HB := n5_
            clear n0_ n1_ n2_ n3_ n4_ n5_
            refine start_ (n := 5) (S := fun w' => w'.cell? ⟨gb846, 0, none⟩ = some (.int .i64 t841) ∧ w'.cell? ⟨gb846, 1, none⟩ = some (.int .i64 t842) ∧ w'.cell? ⟨gb846, 2, none⟩ = some (.slice Ao46 t843.length co46) ∧ w'.cell? ⟨gb826, 0, none⟩ = some (.int .i64 a3_0) ∧ w'.cell? ⟨gb826, 1, none⟩ = some (.int .i64 a3_1) ∧ w'.cell? ⟨gb826, 2, none⟩ = some (.slice A3_2 l3_2.length c3_2)) (ds := []) #[false, false, false, false, false] (by kernel_rfl) rfl rfl ⟨(blk_cell BK846.out 0).trans rfl, (blk_cell BK846.out 1).trans rfl, (blk_cell BK846.out 2).trans rfl, (blk_cell BK826.out 0).trans rfl, (blk_cell BK826.out 1).trans rfl, (blk_cell BK826.out 2).trans rfl⟩ (fun hHeld => ?_)
            generalize wc.drew = w57 at HO_847002 BK824 BK825 BK826 BK846 HB hHeld ⊢
            refine take_ (i := 0) (N := some 63) (v := ?_) (a' := ?_) #[true, false, false, false, false] rfl rfl (by kernel_rfl) (fun _ _ _ h => h) (Or.inl ⟨by rfl, ?_⟩) hHeld ?_ ?_
            rotate_left
            · rintro w' ⟨s0, s1, s2, s3, s4, s5⟩
              go_simp
              with_reducible rfl
            rotate_left
            · simp only [Act.put, List.setIfInBounds_toArray, List.set_cons_zero, List.set_cons_succ, i64_w, i32_w]
              rfl
            refine take_ (i := 1) (N := some 64) (v := ?_) (a' := ?_) #[true, true, false, false, false] rfl rfl (by kernel_rfl) (fun _ _ _ h => h) (Or.inl ⟨by rfl, ?_⟩) hHeld ?_ ?_
            rotate_left
            · rintro w' ⟨s0, s1, s2, s3, s4, s5⟩
              go_simp
              with_reducible rfl
            rotate_left
            · simp only [Act.put, List.setIfInBounds_toArray, List.set_cons_zero, List.set_cons_succ, i64_w, i32_w]
              rfl
            refine one_ (i := 2) (N := some 65) #[true, true, true, false, false] rfl rfl (by kernel_rfl) (by decide) (fun K hK => ?_)
            refine goes_ Try.func13 (by kernel_rfl) rfl #[.agg #[.int .i64 a3_0, .int .i64 a3_1, .slice A3_2 l3_2.length c3_2]] (by rfl) rfl rfl arr_ ?_
            with_reducible refine (laws_toPlan.calls kj24 a3_0 a3_1 _ _ l3_2 t855 t856 t857 _ ?side1 ?side2 A54.out).mono ?_
            (case side1 => exact kc_ (Kd.C_below HR3_2.out HB.out))
            (case side2 => exact HC3_2.out)
            rintro e w58 ⟨v858, rfl, ho0, hb⟩
            refine ⟨_, rfl, ?_⟩
            have n0_ := am_ (Kd.R_elder' (by (with_reducible repeat (first | apply Kd.R_alloc | apply Kd.R_drewN | apply Kd.R_drew)); exact HO_847002.out) (Kd.R_base ho0) hb)
            have n1_ := am_ (Kd.R_lower (Kd.R_new' ho0 (Kd.R_lt (by (with_reducible repeat (first | apply Kd.R_alloc | apply Kd.R_drewN | apply Kd.R_drew)); exact HO_847002.out))) (below_size (hb4_ HB.out GE824.out GE825.out GE826.out GE846.out)))
            have n2_ := am_ (bb_ BK824.out hb)
            have n3_ := am_ (bb_ BK825.out hb)
            have n4_ := am_ (bb_ BK826.out hb)
            have n5_ := am_ (bb_ BK846.out hb)
            have n6_ := am_ (below_step (hb4_ HB.out GE824.out GE825.out GE826.out GE846.out) hb)
            clear HO_847002
            clear BK824
            clear BK825
            clear BK826
            clear BK846
            clear HB
            have HO_847002 := n0_
            have HO859 := n1_
            have BK824 := n2_
            have BK825 := n3_
            have BK826 := n4_
            have BK846 := n5_
            have HB := n6_
            clear n0_ n1_ n2_ n3_ n4_ n5_ n6_
            (try clear hb)
            (try clear hb2)
            (try clear hk)
            (try clear hi)
            (try clear ho0)
            obtain ⟨Ao59, co59, eo59⟩ := Kd.R_slice HO859.out
            (first | subst eo59 | (injection eo59 with f1_ f2_ f3_; have f4_ := f1_.symm; have f5_ := f3_.symm; clear f1_ f2_ f3_; subst f4_; subst f5_))
            refine hK.out _ _ ⟨(blk_cell BK846.out 0).trans rfl, (blk_cell BK846.out 1).trans rfl, (blk_cell BK846.out 2).trans rfl, (blk_cell BK826.out 0).trans rfl, (blk_cell BK826.out 1).trans rfl, (blk_cell BK826.out 2).trans rfl⟩ (fun hHeld => ?_)
            clear hK K
            refine norm_ (a' := ?_) ?_ ?_
            rotate_left
            · show Act.put _ (some 65) _ = _
              simp only [Act.put, List.setIfInBounds_toArray, List.set_cons_zero, List.set_cons_succ, i64_w, i32_w]
              rfl
            refine one_ (i := 3) (N := some 66) #[true, true, true, true, false] rfl rfl (by kernel_rfl) (by decide) (fun K hK => ?_)
            refine goes_ Try.func15 (by kernel_rfl) rfl #[.agg #[.int .i64 t841, .int .i64 t842, .slice Ao46 t843.length co46], .agg #[.int .i64 t855, .int .i64 t856, .slice Ao59 t857.length co59]] (by rfl) rfl rfl arr_ ?_
            with_reducible refine (laws_eqPlan.calls kj24 t841 t842 _ _ t843 t855 t856 _ _ t857 true _ ?side1 ?side2 ?side3 ?side4 A55.out).mono ?_
            (case side1 => repeat (first | exact (Kd.R_reads' HO_847002.out).2.2 | (with_reducible refine Kd.C_alloc ?_ _) | (with_reducible refine Kd.C_drewN ?_ _) | (with_reducible refine Kd.C_drew ?_)))
            (case side2 => exact (Kd.R_reads' HO_847002.out).2.1)
            (case side3 => repeat (first | exact (Kd.R_reads' HO859.out).2.2 | (with_reducible refine Kd.C_alloc ?_ _) | (with_reducible refine Kd.C_drewN ?_ _) | (with_reducible refine Kd.C_drew ?_)))
            (case side4 => exact (Kd.R_reads' HO859.out).2.1)
            rintro e w60 ⟨rfl, hb⟩
            refine ⟨_, rfl, ?_⟩
            have n0_ := am_ (Kd.R_below (by (with_reducible repeat (first | apply Kd.R_alloc | apply Kd.R_drewN | apply Kd.R_drew)); exact HO_847002.out) hb)
            have n1_ := am_ (Kd.R_below (by (with_reducible repeat (first | apply Kd.R_alloc | apply Kd.R_drewN | apply Kd.R_drew)); exact HO859.out) hb)
            have n2_ := am_ (bb_ BK824.out hb)
            have n3_ := am_ (bb_ BK825.out hb)
            have n4_ := am_ (bb_ BK826.out hb)
            have n5_ := am_ (bb_ BK846.out hb)
            have n6_ := am_ (below_step (hb4_ HB.out GE824.out GE825.out GE826.out GE846.out) hb)
            clear HO_847002
            clear HO859
            clear BK824
            clear BK825
            clear BK826
            clear BK846
            clear HB
            have HO_847002 := n0_
            have HO859 := n1_
            have BK824 := n2_
            have BK825 := n3_
            have BK826 := n4_
            have BK846 := n5_
            have HB := n6_
            clear n0_ n1_ n2_ n3_ n4_ n5_ n6_
            (try clear hb)
            (try clear hb2)
            (try clear hk)
            (try clear hi)
            refine hK.out _ _ ⟨(blk_cell BK846.out 0).trans rfl, (blk_cell BK846.out 1).trans rfl, (blk_cell BK846.out 2).trans rfl, (blk_cell BK826.out 0).trans rfl, (blk_cell BK826.out 1).trans rfl, (blk_cell BK826.out 2).trans rfl⟩ (fun hHeld => ?_)
            clear hK K
            refine norm_ (a' := ?_) ?_ ?_
            rotate_left
            · show Act.put _ (some 66) _ = _
              simp only [Act.put, List.setIfInBounds_toArray, List.set_cons_zero, List.set_cons_succ, i64_w, i32_w]
              rfl
            refine pure_ (i := 4) (N := some 67) (v := ?_) (a' := ?_) #[true, true, true, true, true] rfl rfl (by kernel_rfl) (fun _ _ _ h => h) (Or.inl ⟨by rfl, ?_⟩) ?_ ?_
            rotate_left
            · intro w'
              go_simp
              with_reducible rfl
            rotate_left
            · simp only [Act.put, List.setIfInBounds_toArray, List.set_cons_zero, List.set_cons_succ, i64_w, i32_w]
              rfl
            refine done_ (by kernel_rfl) ?_
            try go_wp2
            go_ret
            exact ⟨er_, hb4_ HB.out GE824.out GE825.out GE826.out GE846.out⟩
          · replace c56 := Bool.eq_false_iff.mpr c56
            subst c56
            have H1 : (some false) = some r := by rw [if_neg (show ¬ (false = true) by decide)] at H; exact H
            clear H
            have H := H1
            clear H1
            obtain rfl := Option.some.inj H
            exact absurd hr_ (by decide)
end Go.Proofs.Ytejohmompmjhnaa.P
namespace Go.Proofs.Ytejohmompmjhnaa.G
open Go.RowKit Go.Proofs.YtejohmompmjhnaaW.PrintWords
theorem wrap_id {x : Int} (h1 : -9223372036854775808 ≤ x) (h2 : x ≤ 9223372036854775807) : wrap64 x = x := by unfold wrap64; omega
theorem wrap_succ {i n : Nat} (h : i < n) (hn : n ≤ 9223372036854775807) : wrap64 ((i : Int) + 1) = ((i + 1 : Nat) : Int) := by unfold wrap64; omega
theorem wrap_pred {i n : Nat} (h0 : 0 < i) (h : i < n) (hn : n ≤ 9223372036854775807) : wrap64 ((i : Int) - 1) = ((i - 1 : Nat) : Int) := by unfold wrap64; omega
theorem all_loop {n : Nat} {L : Nat → Int → Option Bool} {Q : Nat → Bool} {e : Bool}
    (hs : ∀ k i, i < n → L (k + 1) (i : Int) = if Q i = true then L k ((i + 1 : Nat) : Int) else some false)
    (he : ∀ k, L (k + 1) (n : Int) = some e) :
    ∀ d i k, i + d = n → d < k → L k (i : Int) = some ((List.range' i d).all Q && e) := by
  intro d
  induction d with
  | zero =>
    intro i k h hk
    obtain ⟨k, rfl⟩ : ∃ m, k = m + 1 := ⟨k - 1, by omega⟩
    obtain rfl : i = n := by omega
    rw [he]; simp
  | succ d ih =>
    intro i k h hk
    obtain ⟨k, rfl⟩ : ∃ m, k = m + 1 := ⟨k - 1, by omega⟩
    rw [hs k i (by omega)]
    rw [List.range'_succ]
    cases hq : Q i with
    | true => rw [if_pos rfl, ih (i + 1) k (by omega) (by omega)]; simp [hq]
    | false => simp [hq]
theorem all_loop0 {n : Nat} {L : Nat → Int → Option Bool} {Q : Nat → Bool} {e : Bool}
    (hs : ∀ k i, i < n → L (k + 1) (i : Int) = if Q i = true then L k ((i + 1 : Nat) : Int) else some false)
    (he : ∀ k, L (k + 1) (n : Int) = some e) (k : Nat) (hk : n < k) : L k 0 = some ((List.range n).all Q && e) := by
  have := all_loop hs he n 0 k (by omega) hk
  rw [List.range_eq_range']
  exact this
theorem all_loopT {n : Nat} {L : Nat → Int → Option Bool}
    (hs : ∀ k i, i < n → L (k + 1) (i : Int) = L k ((i + 1 : Nat) : Int)) (he : ∀ k, L (k + 1) (n : Int) = some true) (k : Nat) (hk : n < k) : L k 0 = some true := by
  have := all_loop0 (Q := fun _ => true) (e := true) (fun k i hi => by rw [if_pos rfl]; exact hs k i hi) he k hk
  rw [this]
  simp [List.all_eq_true]
theorem fold_loop {n : Nat} {σ ρ : Type} {L : Nat → σ → Int → Option ρ} {st : Nat → σ → σ} {fin : σ → ρ} {I : Nat → σ → Prop}
    (hs : ∀ k i s, i < n → I i s → L (k + 1) s (i : Int) = L k (st i s) ((i + 1 : Nat) : Int))
    (hI : ∀ i s, i < n → I i s → I (i + 1) (st i s))
    (he : ∀ k s, I n s → L (k + 1) s (n : Int) = some (fin s)) :
    ∀ d i s k, i + d = n → I i s → d < k → L k s (i : Int) = some (fin ((List.range' i d).foldl (fun s i => st i s) s)) := by
  intro d
  induction d with
  | zero =>
    intro i s k h hi hk
    obtain ⟨k, rfl⟩ : ∃ m, k = m + 1 := ⟨k - 1, by omega⟩
    obtain rfl : i = n := by omega
    rw [he k s hi]; simp
  | succ d ih =>
    intro i s k h hi hk
    obtain ⟨k, rfl⟩ : ∃ m, k = m + 1 := ⟨k - 1, by omega⟩
    rw [hs k i s (by omega) hi, ih (i + 1) (st i s) k (by omega) (hI i s (by omega) hi) (by omega), List.range'_succ]
    rfl
def found {ρ : Type} (Q : Nat → Bool) (r : Nat → ρ) (e : ρ) (is : List Nat) : ρ := match is.find? Q with
  | some j => r j
  | none => e
theorem find_loop {n : Nat} {ρ : Type} {L : Nat → Int → Option ρ} {Q : Nat → Bool} {r : Nat → ρ} {e : ρ} {c : Nat}
    (hs : ∀ k i, i < n → c ≤ k → L (k + 1) (i : Int) = if Q i = true then some (r i) else L k ((i + 1 : Nat) : Int))
    (he : ∀ k, L (k + 1) (n : Int) = some e) :
    ∀ d i k, i + d = n → d + c < k → L k (i : Int) = some (found Q r e (List.range' i d)) := by
  intro d
  induction d with
  | zero =>
    intro i k h hk
    obtain ⟨k, rfl⟩ : ∃ m, k = m + 1 := ⟨k - 1, by omega⟩
    obtain rfl : i = n := by omega
    rw [he]; rfl
  | succ d ih =>
    intro i k h hk
    obtain ⟨k, rfl⟩ : ∃ m, k = m + 1 := ⟨k - 1, by omega⟩
    rw [hs k i (by omega) (by omega), List.range'_succ]
    unfold found
    cases hq : Q i with
    | true => simp [List.find?, hq]
    | false =>
      rw [if_neg (by simp), ih (i + 1) k (by omega) (by omega)]
      simp [List.find?, hq, found]
theorem find_loop0 {n : Nat} {ρ : Type} {L : Nat → Int → Option ρ} {Q : Nat → Bool} {r : Nat → ρ} {e : ρ} {c : Nat}
    (hs : ∀ k i, i < n → c ≤ k → L (k + 1) (i : Int) = if Q i = true then some (r i) else L k ((i + 1 : Nat) : Int))
    (he : ∀ k, L (k + 1) (n : Int) = some e) (k : Nat) (hk : n + c < k) : L k 0 = some (found Q r e (List.range n)) := by
  have := find_loop hs he n 0 k (by omega) hk
  rw [List.range_eq_range']
  exact this
theorem found_none {ρ : Type} {Q : Nat → Bool} {r : Nat → ρ} {e : ρ} {n : Nat} (h : ∀ i, i < n → Q i = false) : found Q r e (List.range n) = e := by
  unfold found
  have : (List.range n).find? Q = none := by
    rw [List.find?_eq_none]; intro i hi; rw [h i (List.mem_range.1 hi)]; simp
  rw [this]
theorem found_some {ρ : Type} {Q : Nat → Bool} {r : Nat → ρ} {e : ρ} {n j : Nat} (hj : j < n) (hq : Q j = true) (h : ∀ i, i < j → Q i = false) : found Q r e (List.range n) = r j := by
  unfold found
  have : (List.range n).find? Q = some j := by
    rw [List.find?_range_eq_some]; exact ⟨hq, List.mem_range.2 hj, fun i hi => by rw [h i hi]; rfl⟩
  rw [this]
theorem first_of {Q : Nat → Bool} : ∀ n, (∃ j, j < n ∧ Q j = true ∧ ∀ i, i < j → Q i = false) ∨ ∀ i, i < n → Q i = false := by
  intro n
  induction n with
  | zero => right; intro i hi; omega
  | succ n ih =>
    rcases ih with ⟨j, h1, h2, h3⟩ | h
    · left; exact ⟨j, by omega, h2, h3⟩
    · cases hq : Q n with
      | true => left; exact ⟨n, by omega, hq, h⟩
      | false => right; intro i hi; rcases Nat.lt_or_ge i n with c | c
                 · exact h i c
                 · obtain rfl : i = n := by omega
                   exact hq
theorem track_loop {n : Nat} {σ ρ : Type} {L : Nat → σ → Int → Option ρ} {F : Nat → σ} {r : ρ} {c : Nat}
    (hs : ∀ k i, i < n → c ≤ k → L (k + 1) (F i) (i : Int) = L k (F (i + 1)) ((i + 1 : Nat) : Int))
    (he : ∀ k, c ≤ k → L (k + 1) (F n) (n : Int) = some r) :
    ∀ d i k, i + d = n → d + c < k → L k (F i) (i : Int) = some r := by
  intro d
  induction d with
  | zero =>
    intro i k h hk
    obtain ⟨k, rfl⟩ : ∃ m, k = m + 1 := ⟨k - 1, by omega⟩
    obtain rfl : i = n := by omega
    exact he k (by omega)
  | succ d ih =>
    intro i k h hk
    obtain ⟨k, rfl⟩ : ∃ m, k = m + 1 := ⟨k - 1, by omega⟩
    rw [hs k i (by omega) (by omega)]
    exact ih (i + 1) k (by omega) (by omega)
theorem track_loop0 {n : Nat} {σ ρ : Type} {L : Nat → σ → Int → Option ρ} {F : Nat → σ} {r : ρ} {c : Nat}
    (hs : ∀ k i, i < n → c ≤ k → L (k + 1) (F i) (i : Int) = L k (F (i + 1)) ((i + 1 : Nat) : Int))
    (he : ∀ k, c ≤ k → L (k + 1) (F n) (n : Int) = some r) (k : Nat) (hk : n + c < k) : L k (F 0) 0 = some r :=
  track_loop hs he n 0 k (by omega) hk
theorem inv_loop {n : Nat} {σ ρ : Type} {L : Nat → σ → Int → Option ρ} {I : Nat → σ → Prop} {R : ρ → Prop}
    (hs : ∀ k i s, i < n → I i s → (∃ s', L (k + 1) s (i : Int) = L k s' ((i + 1 : Nat) : Int) ∧ I (i + 1) s') ∨ ∃ r, L (k + 1) s (i : Int) = some r ∧ R r)
    (he : ∀ k s, I n s → ∃ r, L (k + 1) s (n : Int) = some r ∧ R r) :
    ∀ d i s k, i + d = n → I i s → d < k → ∃ r, L k s (i : Int) = some r ∧ R r := by
  intro d
  induction d with
  | zero =>
    intro i s k h hi hk
    obtain ⟨k, rfl⟩ : ∃ m, k = m + 1 := ⟨k - 1, by omega⟩
    obtain rfl : i = n := by omega
    exact he k s hi
  | succ d ih =>
    intro i s k h hi hk
    obtain ⟨k, rfl⟩ : ∃ m, k = m + 1 := ⟨k - 1, by omega⟩
    rcases hs k i s (by omega) hi with ⟨s', h1, h2⟩ | ⟨r, h1, h2⟩
    · rw [h1]; exact ih (i + 1) s' k (by omega) h2 (by omega)
    · exact ⟨r, h1, h2⟩
theorem to_loop {α β : Type} {l : List α} {c : α → β} {z : β} {L : Nat → List β → Int → Option (List β)}
    (hs : ∀ k acc i (hi : i < l.length), acc.length = l.length → L (k + 1) acc (i : Int) = L k (acc.set i (c l[i])) ((i + 1 : Nat) : Int))
    (he : ∀ k acc, acc.length = l.length → L (k + 1) acc (l.length : Int) = some acc) :
    ∀ d i k, i + d = l.length → d < k → L k ((l.take i).map c ++ List.replicate d z) (i : Int) = some (l.map c) := by
  intro d
  induction d with
  | zero =>
    intro i k h hk
    obtain ⟨k, rfl⟩ : ∃ m, k = m + 1 := ⟨k - 1, by omega⟩
    obtain rfl : i = l.length := by omega
    rw [he _ _ (by simp)]; simp
  | succ d ih =>
    intro i k h hk
    obtain ⟨k, rfl⟩ : ∃ m, k = m + 1 := ⟨k - 1, by omega⟩
    have hi : i < l.length := by omega
    rw [hs _ _ i hi (by simp; omega), ← ih (i + 1) k (by omega) (by omega)]
    congr 1
    have hl : ((l.take i).map c).length = i := by simp; omega
    rw [List.set_append, if_neg (by omega), hl, Nat.sub_self, List.replicate_succ, List.set_cons_zero, List.take_succ_eq_append_getElem hi, List.map_append, List.append_assoc]
    rfl
theorem to_loop0 {α β : Type} {l : List α} {c : α → β} {z : β} {L : Nat → List β → Int → Option (List β)}
    (hs : ∀ k acc i (hi : i < l.length), acc.length = l.length → L (k + 1) acc (i : Int) = L k (acc.set i (c l[i])) ((i + 1 : Nat) : Int))
    (he : ∀ k acc, acc.length = l.length → L (k + 1) acc (l.length : Int) = some acc) (k : Nat) (hk : l.length < k) : L k (List.replicate l.length z) 0 = some (l.map c) := by
  have := to_loop hs he l.length 0 k (by omega) hk (z := z)
  simpa using this
theorem all_true {n : Nat} {Q : Nat → Bool} (h : ∀ i, i < n → Q i = true) : (List.range n).all Q = true := by
  rw [List.all_eq_true]; intro i hi; exact h i (List.mem_range.1 hi)
theorem all_iff {n : Nat} {Q : Nat → Bool} : (List.range n).all Q = true ↔ ∀ i, i < n → Q i = true := by
  rw [List.all_eq_true]; exact ⟨fun h i hi => h i (List.mem_range.2 hi), fun h i hi => h i (List.mem_range.1 hi)⟩
end Go.Proofs.Ytejohmompmjhnaa.G
namespace Go.Proofs.Ytejohmompmjhnaa.C
open Go.RowKit Go.Proofs.Ytejohmompmjhnaa.P Go.Proofs.Ytejohmompmjhnaa.G
theorem l1In (a b c : Int) : spec_l1In.f a b c = some (decide (b ≤ a ∧ a ≤ c)) := by
  unfold spec_l1In.f; by_cases h : a ≥ b <;> simp [h] <;> omega
theorem in_ (a b c : Int) : impl_in.f a b c = some (decide (b ≤ a ∧ a ≤ c)) := by
  unfold impl_in.f; by_cases h : b ≤ a <;> simp [h]
theorem l2Time (a : Int) : spec_l2Time.f a = some (decide (0 ≤ a ∧ a ≤ 1000000000000)) := by
  unfold spec_l2Time.f; rw [l1In]; rfl
theorem isTime (a : Int) : impl_isTime.f a = some (decide (0 ≤ a ∧ a ≤ 1000000000000)) := by
  unfold impl_isTime.f; rw [in_]; rfl
theorem l4Node (a : Int) : spec_l4Node.f a = some (decide (0 ≤ a ∧ a ≤ 7)) := by
  unfold spec_l4Node.f; rw [l1In]; rfl
theorem isNode (a : Int) : impl_isNode.f a = some (decide (0 ≤ a ∧ a ≤ 7)) := by
  unfold impl_isNode.f; rw [in_]; rfl
def timeOk (x : Int) : Bool := decide (0 ≤ x ∧ x ≤ 1000000000000)
theorem timeOk_iff (x : Int) : timeOk x = true ↔ 0 ≤ x ∧ x ≤ 1000000000000 := by unfold timeOk; simp
abbrev Sl := S55
abbrev SlL := S104
def toSl (x : SlL) : Sl := ⟨x.f0, x.f1⟩
theorem rdSl (l : List Sl) (i : Nat) (h : i < l.length) : rd_T55 l (i : Int) = l[i] := by
  unfold rd_T55; simp [List.getD, h]
theorem rdSlL (l : List SlL) (i : Nat) (h : i < l.length) : rd_T104 l (i : Int) = l[i] := by
  unfold rd_T104; simp [List.getD, h]
theorem toSlotS (l : List SlL) (hl : l.length ≤ 1048576) (k : Nat) (hk : l.length < k) : laws_toSlotS.f k l = some (l.map toSl) := by
  unfold laws_toSlotS.f
  rw [if_pos (by omega), if_pos (by simp; omega)]
  simp only [Int.toNat_natCast]
  refine to_loop0 (L := fun k acc i => laws_toSlotS.l0 k l acc i) (fun k acc i hi ha => ?_) (fun k acc ha => ?_) k hk
  · simp only [laws_toSlotS.l0, laws_toSlot.f, Option.bind_some]
    rw [if_pos (by omega), if_pos (by omega), if_pos (by omega), wrap_succ hi (by omega), rdSlL l i hi]
    rfl
  · simp only [laws_toSlotS.l0]
    rw [if_neg (by omega)]
theorem toPlan (a b : Int) (l : List SlL) (hl : l.length ≤ 1048576) (k : Nat) (hk : l.length < k) : laws_toPlan.f k a b l = some (a, b, l.map toSl) := by
  unfold laws_toPlan.f; rw [toSlotS l hl k hk]; rfl
theorem eqSlotS (l : List Sl) (hl : l.length ≤ 1048576) (k : Nat) (hk : l.length < k) : laws_eqSlotS.f k l l = some true := by
  unfold laws_eqSlotS.f
  rw [if_pos rfl]
  refine all_loopT (n := l.length) (L := fun k i => laws_eqSlotS.l0 k l l i) (fun k i hi => ?_) (fun k => ?_) k hk
  · simp only [laws_eqSlotS.l0, laws_eqSlot.f]
    rw [if_pos (by omega), if_pos (by omega), if_pos (by omega), wrap_succ hi (by omega)]
    simp
  · simp only [laws_eqSlotS.l0]
    rw [if_neg (by omega)]
theorem eqPlan (a b : Int) (l : List Sl) (hl : l.length ≤ 1048576) (k : Nat) (hk : l.length < k) : laws_eqPlan.f k a b l a b l = some true := by
  unfold laws_eqPlan.f; rw [eqSlotS l hl k hk]; simp
theorem szPlan (a b : Int) (l : List SlL) (hl : l.length ≤ 9223372036854775807) (x : Int) (hx : 0 ≤ x ∧ x ≤ 1048576) :
    (laws_szPlan.f a b l x = some (-1)) ∨ (laws_szPlan.f a b l x = some (x - l.length) ∧ (l.length : Int) ≤ x) := by
  unfold laws_szPlan.f laws_szSlotS.f
  have hw : wrap64 (x - (l.length : Int)) = x - l.length := wrap_id (by omega) (by omega)
  rw [hw]
  by_cases h : x - (l.length : Int) < 0
  · left; rw [if_pos h]; simp
  · right; rw [if_neg h]; simp only [Option.bind_some]; rw [if_neg h]; exact ⟨rfl, by omega⟩
def slotOk (x : Sl) : Bool := decide (0 ≤ x.f0 ∧ x.f0 ≤ 7) && decide (1 ≤ x.f1 ∧ x.f1 ≤ 1000000)
def slotsOk (l : List Sl) : Bool := (List.range l.length).all fun i => match l[i]? with | some x => slotOk x | none => true
def planOk (st gap : Int) (l : List Sl) : Bool := decide (0 ≤ st ∧ st ≤ 1000000000000) && decide (0 ≤ gap ∧ gap ≤ 100000) && decide ((1 : Int) ≤ l.length ∧ (l.length : Int) ≤ 12) && slotsOk l
theorem slotsOk_get {l : List Sl} (h : slotsOk l = true) (i : Nat) (hi : i < l.length) : 0 ≤ l[i].f0 ∧ l[i].f0 ≤ 7 ∧ 1 ≤ l[i].f1 ∧ l[i].f1 ≤ 1000000 := by
  unfold slotsOk at h; rw [all_iff] at h
  have := h i hi
  rw [List.getElem?_eq_getElem hi] at this
  simp [slotOk] at this; omega
theorem planOk_iff (st gap : Int) (l : List Sl) : planOk st gap l = true ↔ (0 ≤ st ∧ st ≤ 1000000000000) ∧ (0 ≤ gap ∧ gap ≤ 100000) ∧ (1 ≤ l.length ∧ l.length ≤ 12) ∧ slotsOk l = true := by
  unfold planOk; simp only [Bool.and_eq_true, decide_eq_true_eq]; constructor
  · rintro ⟨⟨⟨h1, h2⟩, h3⟩, h4⟩; exact ⟨h1, h2, by omega, h4⟩
  · rintro ⟨h1, h2, h3, h4⟩; exact ⟨⟨⟨h1, h2⟩, by omega⟩, h4⟩
theorem iIndexSlot (l : List Sl) (hl : l.length ≤ 1048576) (k : Nat) (hk : l.length < k) : ∃ r, slices_IndexFunc_Slot.f k l = some r ∧ decide (r ≥ 0) = !slotsOk l := by
  have h1 : ∀ x : Sl, impl_PlanOk_1.f x.f0 x.f1 = some (!slotOk x) := by
    intro x; unfold impl_PlanOk_1.f slotOk; simp only [isNode, in_, Option.bind_some]
    cases decide (0 ≤ x.f0 ∧ x.f0 ≤ 7) <;> simp
  unfold slices_IndexFunc_Slot.f
  have := find_loop0 (n := l.length) (L := fun k i => slices_IndexFunc_Slot.l0 k l (l.length : Int) i) (Q := fun i => match l[i]? with | some x => !slotOk x | none => false) (r := fun i => (i : Int)) (e := -1) (c := 0) (fun k i hi _ => ?_) (fun k => ?_) k (by omega)
  · refine ⟨_, this, ?_⟩
    rcases first_of (Q := fun i => match l[i]? with | some x => !slotOk x | none => false) l.length with ⟨j, h2, h3, h4⟩ | h2
    · rw [found_some h2 h3 h4]
      have : slotsOk l = false := by
        cases hs : slotsOk l with
        | false => rfl
        | true =>
          unfold slotsOk at hs; rw [all_iff] at hs
          have := hs j h2
          rw [List.getElem?_eq_getElem h2] at this h3
          simp at this h3; rw [this] at h3; cases h3
      rw [this]; simp
    · rw [found_none h2]
      have : slotsOk l = true := by
        unfold slotsOk; rw [all_iff]; intro i hi
        have := h2 i hi
        rw [List.getElem?_eq_getElem hi] at this ⊢
        simpa using this
      rw [this]; simp
  · simp only [slices_IndexFunc_Slot.l0]
    rw [if_pos (by omega), if_pos (by omega), if_pos (by omega), wrap_succ hi (by omega), rdSl l i hi, h1, List.getElem?_eq_getElem hi]
    rfl
  · simp only [slices_IndexFunc_Slot.l0]
    rw [if_neg (by omega)]
theorem iPlanOk (st gap : Int) (l : List Sl) (hl : l.length ≤ 1048576) (k : Nat) (hk : l.length < k) : impl_PlanOk.f k st gap l = some (planOk st gap l) := by
  obtain ⟨r, h1, h2⟩ := iIndexSlot l hl k hk
  unfold impl_PlanOk.f planOk slices_ContainsFunc_Slot.f; simp only [isTime, in_, h1, h2, Option.bind_some]
  cases decide (0 ≤ st ∧ st ≤ 1000000000000) <;> cases decide (0 ≤ gap ∧ gap ≤ 100000) <;> cases decide ((1 : Int) ≤ l.length ∧ (l.length : Int) ≤ 12) <;> simp
theorem sPlanOk (st gap : Int) (l : List Sl) (hl : l.length ≤ 1048576) (k : Nat) (hk : l.length + 1 < k) : spec_PlanOk.f k st gap l = some (planOk st gap l) := by
  obtain ⟨k, rfl⟩ : ∃ j, k = j + 1 := ⟨k - 1, by omega⟩
  have hL : spec_PlanOk.l0 k 0 st gap l = some (slotsOk l) := by
    unfold slotsOk
    have := all_loop0 (n := l.length) (L := fun k i => spec_PlanOk.l0 k i st gap l) (Q := fun i => match l[i]? with | some x => slotOk x | none => true) (e := true) (fun k i hi => ?_) (fun k => ?_) k (by omega)
    · simpa using this
    · simp only [spec_PlanOk.l0, l4Node, l1In, Option.bind_some]
      rw [if_pos (by omega), if_pos (by omega), wrap_succ hi (by omega), rdSl l i hi, List.getElem?_eq_getElem hi]
      simp only [slotOk]
      by_cases h1 : (0 ≤ l[i].f0 ∧ l[i].f0 ≤ 7) <;> by_cases h2 : (1 ≤ l[i].f1 ∧ l[i].f1 ≤ 1000000) <;> simp [h1, h2]
    · simp only [spec_PlanOk.l0]
      rw [if_neg (by omega)]
  unfold spec_PlanOk.f planOk; simp only [l2Time, l1In, Option.bind_some, spec_PlanOk.j0, hL]
  cases decide (0 ≤ st ∧ st ≤ 1000000000000) <;> cases decide (0 ≤ gap ∧ gap ≤ 100000) <;> cases decide ((1 : Int) ≤ l.length ∧ (l.length : Int) ≤ 12) <;> simp
def ivalOk (a b : Int) : Bool := decide (-1000000000000 ≤ a) && decide (a ≤ b) && decide (b ≤ 1000000000000)
theorem ivalOk_iff (a b : Int) : ivalOk a b = true ↔ -1000000000000 ≤ a ∧ a ≤ b ∧ b ≤ 1000000000000 := by unfold ivalOk; simp; omega
theorem sIvalOk (a b : Int) : spec_IvalOk.f a b = some (ivalOk a b) := by
  have e : ivalOk a b = decide (-1000000000000 ≤ a ∧ a ≤ b ∧ b ≤ 1000000000000) := by
    rw [Bool.eq_iff_iff, ivalOk_iff, decide_eq_true_iff]
  rw [e]
  unfold spec_IvalOk.f; simp only [l1In, Option.bind_some]
  by_cases h1 : a ≤ b
  · rw [if_pos h1]
    by_cases h2 : (-1000000000000 ≤ a ∧ a ≤ 1000000000000)
    · rw [decide_eq_true h2, if_pos rfl]; congr 1; rw [decide_eq_decide]; omega
    · rw [decide_eq_false h2, if_neg (by decide)]; congr 1; symm; apply decide_eq_false; omega
  · rw [if_neg h1]; congr 1; symm; apply decide_eq_false; omega
theorem iIvalOk (a b : Int) : impl_IvalOk.f a b = some (ivalOk a b) := by
  unfold impl_IvalOk.f ivalOk
  by_cases h1 : a ≤ b <;> by_cases h2 : -1000000000000 ≤ a <;> by_cases h3 : b ≤ 1000000000000 <;> simp [h1, h2, h3]
def ivalT (a b : Int) : Int × Int × Bool := if ivalOk a b = true then (a, b, true) else (0, 0, false)
theorem sTold (a b : Int) : spec_l1Told.f a b = some (ivalT a b) := by
  unfold spec_l1Told.f ivalT; rw [sIvalOk]; simp only [Option.bind_some]; split <;> rfl
theorem iIval (a b : Int) : impl_ival.f a b = some (ivalT a b) := by
  unfold impl_ival.f ivalT; rw [iIvalOk]; simp only [Option.bind_some]; split <;> rfl
def uptoL (gap : Int) : List Sl → Int
  | [] => 0
  | x :: xs => x.f1 + gap + uptoL gap xs
theorem uptoL_append (gap : Int) (a b : List Sl) : uptoL gap (a ++ b) = uptoL gap a + uptoL gap b := by
  induction a with
  | nil => simp [uptoL]
  | cons x xs ih => simp only [List.cons_append, uptoL, ih]; omega
def upto (gap : Int) (l : List Sl) (n : Nat) : Int := uptoL gap (l.take n)
theorem upto_zero (gap : Int) (l : List Sl) : upto gap l 0 = 0 := rfl
theorem upto_succ (gap : Int) (l : List Sl) (i : Nat) (h : i < l.length) : upto gap l (i + 1) = upto gap l i + (l[i].f1 + gap) := by
  unfold upto; rw [List.take_succ_eq_append_getElem h, uptoL_append]; simp [uptoL]
def round (gap : Int) (l : List Sl) : Int := upto gap l l.length
theorem upto_bd {st gap : Int} {l : List Sl} (h : planOk st gap l = true) : ∀ n, n ≤ l.length → (n : Int) ≤ upto gap l n ∧ upto gap l n ≤ 1100000 * n := by
  rw [planOk_iff] at h
  intro n
  induction n with
  | zero => intro _; rw [upto_zero]; omega
  | succ n ih =>
    intro hn
    have h1 := ih (by omega)
    have h2 := slotsOk_get h.2.2.2 n (by omega)
    rw [upto_succ gap l n (by omega)]
    omega
theorem round_bd {st gap : Int} {l : List Sl} (h : planOk st gap l = true) : 1 ≤ round gap l ∧ round gap l ≤ 13200000 := by
  have h1 := upto_bd h l.length (Nat.le_refl _)
  rw [planOk_iff] at h
  unfold round; omega
theorem upto_mono {st gap : Int} {l : List Sl} (h : planOk st gap l = true) (i : Nat) : ∀ j, (hj : i < j) → (hl : j ≤ l.length) → upto gap l i + (l[i]'(by omega)).f1 + gap ≤ upto gap l j := by
  have h' := h
  rw [planOk_iff] at h'
  intro j
  induction j with
  | zero => intro hj; omega
  | succ j ih =>
    intro hj hl
    rw [upto_succ gap l j (by omega)]
    have h2 := slotsOk_get h'.2.2.2 j (by omega)
    rcases Nat.lt_or_ge i j with c | c
    · have := ih c (by omega); omega
    · obtain rfl : i = j := by omega
      omega
theorem iFrom {st gap : Int} {l : List Sl} (h : planOk st gap l = true) (n : Nat) (hn : n ≤ l.length) (k : Nat) (hk : 20 ≤ k) : impl_Plan_from.f k st gap l (n : Int) = some (upto gap l n) := by
  have h' := h
  rw [planOk_iff] at h'
  unfold impl_Plan_from.f
  rw [if_pos (by omega), if_pos (by omega)]
  simp only [Option.bind_some, Int.toNat_natCast]
  have hy : (l.take n).length = n := by simp; omega
  rw [hy]
  refine track_loop0 (n := n) (c := 0) (L := fun k s i => impl_Plan_from.l0 k s (l.take n) (n : Int) i st gap l) (F := fun i => upto gap l i) (fun k i hi _ => ?_) (fun k _ => ?_) k (by omega)
  · simp only [impl_Plan_from.l0]
    have hb := upto_bd h i (by omega)
    have hs := slotsOk_get h'.2.2.2 i (by omega)
    rw [if_pos (by omega), if_pos (by omega), if_pos (by omega), wrap_succ hi (by omega), rdSl (l.take n) i (by omega), List.getElem_take, upto_succ gap l i (by omega), wrap_id (x := l[i].f1 + gap) (by omega) (by omega), wrap_id (by omega) (by omega)]
  · simp only [impl_Plan_from.l0]
    rw [if_neg (by omega)]
theorem iRound {st gap : Int} {l : List Sl} (h : planOk st gap l = true) (k : Nat) (hk : 20 ≤ k) : impl_Plan_round.f k st gap l = some (round gap l) := by
  unfold impl_Plan_round.f; rw [iFrom h l.length (Nat.le_refl _) k hk]; rfl
theorem sUpto {st gap : Int} {l : List Sl} (h : planOk st gap l = true) (n : Nat) (hn : n ≤ l.length) (k : Nat) (hk : 20 ≤ k) : spec_l13Upto.f k st gap l (n : Int) = some (upto gap l n) := by
  have h' := h
  rw [planOk_iff] at h'
  unfold spec_l13Upto.f
  refine track_loop0 (n := n) (c := 0) (L := fun k s i => spec_l13Upto.l0 k (n : Int) s i st gap l) (F := fun i => upto gap l i) (fun k i hi _ => ?_) (fun k _ => ?_) k (by omega)
  · simp only [spec_l13Upto.l0]
    have hb := upto_bd h i (by omega)
    have hs := slotsOk_get h'.2.2.2 i (by omega)
    rw [if_pos (by omega), if_pos (by omega), if_pos (by omega), wrap_succ hi (by omega), rdSl l i (by omega), upto_succ gap l i (by omega), wrap_id (x := upto gap l i + l[i].f1) (by omega) (by omega), wrap_id (by omega) (by omega)]
    congr 1; omega
  · simp only [spec_l13Upto.l0]
    rw [if_neg (by omega)]
def roundOf (st gap : Int) (l : List Sl) : Int := if planOk st gap l = true then round gap l else 0
theorem sRoundOf (st gap : Int) (l : List Sl) (hl : l.length ≤ 1048576) (k : Nat) (hk : 1050000 ≤ k) : spec_RoundOf.f k st gap l = some (roundOf st gap l) := by
  unfold spec_RoundOf.f roundOf; rw [sPlanOk st gap l hl k (by omega)]
  simp only [Option.bind_some]
  cases h : planOk st gap l with
  | false => rfl
  | true => rw [if_pos rfl, sUpto h l.length (Nat.le_refl _) k (by omega)]; rfl
theorem sRoundOf' {st gap : Int} {l : List Sl} (h : planOk st gap l = true) (k : Nat) (hk : 20 ≤ k) : spec_RoundOf.f k st gap l = some (round gap l) := by
  have h' := h
  rw [planOk_iff] at h'
  unfold spec_RoundOf.f; rw [sPlanOk st gap l (by omega) k (by omega), h]
  simp only [Option.bind_some]
  rw [if_pos trivial, sUpto h l.length (Nat.le_refl _) k (by omega)]; rfl
def isSlot (st gap : Int) (l : List Sl) (i : Int) : Bool := planOk st gap l && decide (0 ≤ i ∧ i < l.length)
theorem isSlot_iff (st gap : Int) (l : List Sl) (i : Int) : isSlot st gap l i = true ↔ planOk st gap l = true ∧ 0 ≤ i ∧ i < l.length := by unfold isSlot; simp
theorem sSlot (st gap : Int) (l : List Sl) (hl : l.length ≤ 1048576) (i : Int) (k : Nat) (hk : 1050000 ≤ k) : spec_l13Slot.f k st gap l i = some (isSlot st gap l i) := by
  unfold spec_l13Slot.f isSlot; rw [sPlanOk st gap l hl k (by omega)]
  simp only [Option.bind_some, l1In]
  rw [wrap_id (by omega) (by omega)]
  cases planOk st gap l with
  | false => rfl
  | true => rw [if_pos rfl, Bool.true_and]; congr 1; rw [decide_eq_decide]; omega
theorem sSlot' {st gap : Int} {l : List Sl} (h : planOk st gap l = true) (i : Nat) (hi : i < l.length) (k : Nat) (hk : 20 ≤ k) : spec_l13Slot.f k st gap l (i : Int) = some true := by
  have h' := h
  rw [planOk_iff] at h'
  unfold spec_l13Slot.f; rw [sPlanOk st gap l (by omega) k (by omega), h]
  simp only [Option.bind_some, l1In]
  rw [wrap_id (by omega) (by omega), if_pos trivial, decide_eq_true (by omega)]
theorem iSlot (st gap : Int) (l : List Sl) (hl : l.length ≤ 1048576) (i : Int) (k : Nat) (hk : 1050000 ≤ k) : impl_isSlot.f k st gap l i = some (isSlot st gap l i) := by
  unfold impl_isSlot.f isSlot; rw [iPlanOk st gap l hl k (by omega)]
  simp only [Option.bind_some, in_]
  rw [wrap_id (by omega) (by omega)]
  cases planOk st gap l with
  | false => rfl
  | true => rw [if_pos rfl, Bool.true_and]; congr 1; rw [decide_eq_decide]; omega
theorem iSlot' {st gap : Int} {l : List Sl} (h : planOk st gap l = true) (i : Nat) (hi : i < l.length) (k : Nat) (hk : 20 ≤ k) : impl_isSlot.f k st gap l (i : Int) = some true := by
  have h' := h
  rw [planOk_iff] at h'
  unfold impl_isSlot.f; rw [iPlanOk st gap l (by omega) k (by omega), h]
  simp only [Option.bind_some, in_]
  rw [wrap_id (by omega) (by omega), if_pos trivial, decide_eq_true (by omega)]
def occ (st gap : Int) (l : List Sl) (i : Nat) (q : Int) : Int × Int × Bool := if 0 ≤ q ∧ q ≤ 1000000000000 / round gap l then ivalT (st + q * round gap l + upto gap l i) (st + q * round gap l + upto gap l i + (match l[i]? with | some x => x.f1 | none => 0)) else (0, 0, false)
def occurrence (st gap : Int) (l : List Sl) (i q : Int) : Int × Int × Bool := if isSlot st gap l i = true then occ st gap l i.toNat q else (0, 0, false)
theorem q_bd {r q : Int} (hr : 1 ≤ r) (h : 0 ≤ q ∧ q ≤ 1000000000000 / r) : 0 ≤ q * r ∧ q * r ≤ 1000000000000 ∧ q ≤ 1000000000000 := by
  have h1 : q * r ≤ 1000000000000 := Int.le_trans (Int.mul_le_mul_of_nonneg_right h.2 (by omega)) (Int.ediv_mul_le _ (by omega))
  have h2 : 0 ≤ q * r := Int.mul_nonneg h.1 (by omega)
  have h3 : q * 1 ≤ q * r := Int.mul_le_mul_of_nonneg_left hr h.1
  omega
theorem div_bd {r : Int} (hr : 1 ≤ r) : 0 ≤ (1000000000000 : Int) / r ∧ (1000000000000 : Int) / r ≤ 1000000000000 :=
  ⟨Int.ediv_nonneg (by omega) (by omega), Int.ediv_le_self _ (by omega)⟩
theorem occ_told {st gap : Int} {l : List Sl} (h : planOk st gap l = true) (i : Nat) (hi : i < l.length) (q : Int) (hq : 0 ≤ q ∧ q ≤ 1000000000000 / round gap l) :
    (0 ≤ st + q * round gap l + upto gap l i ∧ st + q * round gap l + upto gap l i + l[i].f1 ≤ 3000000000000) ∧ wrap64 (wrap64 (st + wrap64 (q * round gap l)) + upto gap l i) = st + q * round gap l + upto gap l i ∧ wrap64 (st + q * round gap l + upto gap l i + l[i].f1) = st + q * round gap l + upto gap l i + l[i].f1 := by
  have hr := round_bd h
  have hb := q_bd hr.1 hq
  have hu := upto_bd h i (by omega)
  rw [planOk_iff] at h
  have hs := slotsOk_get h.2.2.2 i hi
  refine ⟨by omega, ?_, wrap_id (by omega) (by omega)⟩
  rw [wrap_id (x := q * round gap l) (by omega) (by omega), wrap_id (x := st + q * round gap l) (by omega) (by omega), wrap_id (by omega) (by omega)]
theorem sOcc {st gap : Int} {l : List Sl} (h : planOk st gap l = true) (i : Nat) (hi : i < l.length) (q : Int) (k : Nat) (hk : 30 ≤ k) : spec_Occurrence.f k st gap l (i : Int) q = some (occ st gap l i q) := by
  obtain ⟨k, rfl⟩ : ∃ j, k = j + 1 := ⟨k - 1, by omega⟩
  have hr := round_bd h
  have hd := div_bd hr.1
  unfold spec_Occurrence.f occ
  rw [sSlot' h i hi _ (by omega), sRoundOf' h _ (by omega)]
  simp only [Option.bind_some, l1In, spec_Occurrence.j0, if_true]
  rw [sRoundOf' h _ (by omega), sUpto h i (by omega) _ (by omega)]
  simp only [Option.bind_some]
  rw [if_neg (show ¬ round gap l = 0 by omega), Int.tdiv_eq_ediv_of_nonneg (by omega : (0 : Int) ≤ 1000000000000), wrap_id (x := 1000000000000 / round gap l) (by omega) (by omega), if_pos (show (0 : Int) ≤ i by omega), if_pos (show (i : Int) < l.length by omega), rdSl l i hi, List.getElem?_eq_getElem hi]
  by_cases hq : 0 ≤ q ∧ q ≤ 1000000000000 / round gap l
  · have ht := occ_told h i hi q hq
    have hb := q_bd hr.1 hq
    rw [decide_eq_true (by omega : 0 ≤ q ∧ q ≤ 1000000000000), if_pos rfl, decide_eq_false (by omega), if_neg (by decide), if_pos hq, ht.2.1, ht.2.2, sTold]
    rfl
  · rw [if_neg hq]
    by_cases h1 : 0 ≤ q ∧ q ≤ 1000000000000
    · rw [decide_eq_true h1, if_pos rfl, decide_eq_true (by omega), if_pos rfl]
    · rw [decide_eq_false h1]; rfl
theorem iOcc {st gap : Int} {l : List Sl} (h : planOk st gap l = true) (i : Nat) (hi : i < l.length) (q : Int) (k : Nat) (hk : 30 ≤ k) : impl_Occurrence.f k st gap l (i : Int) q = some (occ st gap l i q) := by
  obtain ⟨k, rfl⟩ : ∃ j, k = j + 1 := ⟨k - 1, by omega⟩
  have hr := round_bd h
  have hd := div_bd hr.1
  unfold impl_Occurrence.f occ
  rw [iSlot' h i hi _ (by omega), iRound h _ (by omega)]
  simp only [Option.bind_some, in_, impl_Occurrence.j0, if_true]
  rw [iRound h _ (by omega), iFrom h i (by omega) _ (by omega)]
  simp only [Option.bind_some]
  rw [if_neg (show ¬ round gap l = 0 by omega), Int.tdiv_eq_ediv_of_nonneg (by omega : (0 : Int) ≤ 1000000000000), wrap_id (x := 1000000000000 / round gap l) (by omega) (by omega), if_pos (show (0 : Int) ≤ i by omega), if_pos (show (i : Int) < l.length by omega), rdSl l i hi, List.getElem?_eq_getElem hi]
  by_cases hq : 0 ≤ q ∧ q ≤ 1000000000000 / round gap l
  · have ht := occ_told h i hi q hq
    rw [decide_eq_true hq, if_neg (by decide), if_pos hq, ht.2.1, ht.2.2, iIval]
    rfl
  · rw [if_neg hq, decide_eq_false hq]; rfl
theorem sOccurrence (st gap : Int) (l : List Sl) (hl : l.length ≤ 1048576) (i q : Int) (k : Nat) (hk : 1050100 ≤ k) : spec_Occurrence.f k st gap l i q = some (occurrence st gap l i q) := by
  unfold occurrence
  cases h : isSlot st gap l i with
  | false =>
    obtain ⟨k, rfl⟩ : ∃ j, k = j + 1 := ⟨k - 1, by omega⟩
    unfold spec_Occurrence.f
    rw [sSlot st gap l hl i _ (by omega), h]
    simp only [Option.bind_some, spec_Occurrence.j0]
    rfl
  | true =>
    rw [isSlot_iff] at h
    obtain ⟨n, rfl⟩ := Int.eq_ofNat_of_zero_le h.2.1
    rw [sOcc h.1 n (by omega) q k (by omega)]; rfl
theorem iOccurrence (st gap : Int) (l : List Sl) (hl : l.length ≤ 1048576) (i q : Int) (k : Nat) (hk : 1050100 ≤ k) : impl_Occurrence.f k st gap l i q = some (occurrence st gap l i q) := by
  unfold occurrence
  cases h : isSlot st gap l i with
  | false =>
    obtain ⟨k, rfl⟩ : ∃ j, k = j + 1 := ⟨k - 1, by omega⟩
    unfold impl_Occurrence.f
    rw [iSlot st gap l hl i _ (by omega), h]
    simp only [Option.bind_some, impl_Occurrence.j0]
    rfl
  | true =>
    rw [isSlot_iff] at h
    obtain ⟨n, rfl⟩ := Int.eq_ofNat_of_zero_le h.2.1
    rw [iOcc h.1 n (by omega) q k (by omega)]; rfl
end Go.Proofs.Ytejohmompmjhnaa.C
namespace Go.Proofs.Ytejohmompmjhnaa.P
open Go.RowKit Go.Proofs.YtejohmompmjhnaaW.PrintWords Go.Proofs.YtejohmompmjhnaaW.PrintLast Go.Proofs.YtejohmompmjhnaaW.PrintMore
attribute [local go_sem] max2_int min2_int max_two min_two max_three min_three max_four min_four
set_option linter.unusedVariables false
set_option linter.unusedSimpArgs false
def spec_l1Max.f (a0 : Int) (a1 : Int) : Option (Int) := if a0 > a1 then (some a0) else (some a1)
set_option maxHeartbeats 8000000 in
set_option maxRecDepth 100000 in
theorem spec_l1Max.calls (a0 : Int) (a1 : Int) (r : Int) (w : World) (h : spec_l1Max.f a0 a1 = some r) :
    Calls Try.prog 51 #[.int .i64 a0, .int .i64 a1] w fun e w' => e = .returned (.int .i64 r) ∧ Drawn0 w w' := by
  have H : (if a0 > a1 then (some a0) else (some a1)) = some r := h
  clear h
  by_cases c3 : a0 > a1
  · rw [if_pos c3] at H
    have c3b0 : decide (a1 < a0) = true := decide_eq_true c3
    clear c3
    obtain rfl := Option.some.inj H
    go_enter Try.func51, Try.ntmps51
    go_wp2
    go_ret
    exact ⟨by first | rfl | (simp; done) | (simp [*]; done), by repeat (first | exact Drawn0.refl _ | apply Drawn0.step)⟩
  · rw [if_neg c3] at H
    have c3b0 : decide (a1 < a0) = false := decide_eq_false c3
    clear c3
    obtain rfl := Option.some.inj H
    go_enter Try.func51, Try.ntmps51
    go_wp2
    go_ret
    exact ⟨by first | rfl | (simp; done) | (simp [*]; done), by repeat (first | exact Drawn0.refl _ | apply Drawn0.step)⟩
end Go.Proofs.Ytejohmompmjhnaa.P
namespace Go.Proofs.Ytejohmompmjhnaa.C
open Go.RowKit Go.Proofs.Ytejohmompmjhnaa.P Go.Proofs.Ytejohmompmjhnaa.G Go.Proofs.YtejohmompmjhnaaW.PrintMore
def inS (gap : Int) (l : List Sl) (left : Int) (i : Nat) : Bool := decide (upto gap l i ≤ left) && decide (left < upto gap l (i + 1) - gap)
theorem inS_iff {gap : Int} {l : List Sl} {left : Int} {i : Nat} (hi : i < l.length) : inS gap l left i = true ↔ upto gap l i ≤ left ∧ left < upto gap l i + l[i].f1 := by
  unfold inS; rw [upto_succ gap l i hi]; simp; omega
theorem inS_one {st gap : Int} {l : List Sl} (h : planOk st gap l = true) {left : Int} {i j : Nat} (hi : i < l.length) (hj : j < l.length) (h1 : inS gap l left i = true) (h2 : inS gap l left j = true) : i = j := by
  rw [inS_iff hi] at h1; rw [inS_iff hj] at h2
  rcases Nat.lt_trichotomy i j with c | c | c
  · have := upto_mono h i j c (by omega); rw [planOk_iff] at h; omega
  · exact c
  · have := upto_mono h j i c (by omega); rw [planOk_iff] at h; omega
def slotAtQ (st gap : Int) (l : List Sl) (t : Int) : Int × Int × Bool :=
  found (inS gap l ((t - st) % round gap l)) (fun i => if (occ st gap l i ((t - st) / round gap l)).2.2 = true then ((i : Int), (t - st) / round gap l, true) else (0, 0, false)) (0, 0, false) (List.range l.length)
def slotAt (st gap : Int) (l : List Sl) (t : Int) : Int × Int × Bool := if (planOk st gap l && timeOk t && decide (st ≤ t)) = true then slotAtQ st gap l t else (0, 0, false)
theorem when_q {st gap : Int} {l : List Sl} (h : planOk st gap l = true) {t : Int} (ht : 0 ≤ t ∧ t ≤ 1000000000000) (hs : st ≤ t) :
    0 ≤ (t - st) / round gap l ∧ (t - st) / round gap l ≤ 1000000000000 / round gap l ∧ (t - st) / round gap l ≤ 1000000000000 ∧ 0 ≤ (t - st) % round gap l ∧ (t - st) % round gap l < round gap l ∧ (t - st) / round gap l * round gap l + (t - st) % round gap l = t - st := by
  have hr := round_bd h
  rw [planOk_iff] at h
  have h1 := Int.mul_ediv_add_emod (t - st) (round gap l)
  rw [Int.mul_comm] at h1
  refine ⟨Int.ediv_nonneg (by omega) (by omega), Int.ediv_le_ediv (by omega) (by omega), ?_, Int.emod_nonneg _ (by omega), Int.emod_lt_of_pos _ (by omega), h1⟩
  have := Int.ediv_le_self (round gap l) (show 0 ≤ t - st by omega); omega
theorem occ_eq {st gap : Int} {l : List Sl} {i : Nat} (hi : i < l.length) {q : Int} (hq : 0 ≤ q ∧ q ≤ 1000000000000 / round gap l) : occ st gap l i q = ivalT (st + q * round gap l + upto gap l i) (st + q * round gap l + upto gap l i + l[i].f1) := by
  unfold occ; rw [if_pos hq, List.getElem?_eq_getElem hi]
theorem ivalT_ok {a b : Int} (h : (ivalT a b).2.2 = true) : ivalT a b = (a, b, true) ∧ ivalOk a b = true := by
  unfold ivalT at h ⊢
  cases hv : ivalOk a b with
  | true => exact ⟨rfl, rfl⟩
  | false => rw [hv] at h; simp at h
theorem occ_in {st gap : Int} {l : List Sl} (h : planOk st gap l = true) {t : Int} (ht : 0 ≤ t ∧ t ≤ 1000000000000) (hs : st ≤ t) (i : Nat) (hi : i < l.length) (ho : (occ st gap l i ((t - st) / round gap l)).2.2 = true) :
    ((occ st gap l i ((t - st) / round gap l)).1 ≤ t ∧ t < (occ st gap l i ((t - st) / round gap l)).2.1) ↔ inS gap l ((t - st) % round gap l) i = true := by
  have hq := when_q h ht hs
  rw [inS_iff hi]
  rw [occ_eq hi ⟨hq.1, hq.2.1⟩] at ho ⊢
  rw [(ivalT_ok ho).1]
  simp only
  omega
theorem iSlotAtQ {st gap : Int} {l : List Sl} (h : planOk st gap l = true) {t : Int} (ht : 0 ≤ t ∧ t ≤ 1000000000000) (hs : st ≤ t) (k : Nat) (hk : 60 ≤ k) : impl_SlotAt.j0 k t false st gap l = some (slotAtQ st gap l t) := by
  obtain ⟨k, rfl⟩ : ∃ j, k = j + 1 := ⟨k - 1, by omega⟩
  have hr := round_bd h
  have hq := when_q h ht hs
  have h' := h
  rw [planOk_iff] at h'
  simp only [impl_SlotAt.j0]
  rw [if_neg (by decide), iRound h _ (by omega)]
  simp only [Option.bind_some]
  rw [if_neg (by omega), wrap_id (x := t - st) (by omega) (by omega), Int.tdiv_eq_ediv_of_nonneg (by omega), Int.tmod_eq_emod_of_nonneg (by omega), wrap_id (by omega) (by omega)]
  rw [if_neg (by omega)]
  unfold slotAtQ
  refine find_loop0 (n := l.length) (c := 35) (L := fun k i => impl_SlotAt.l0 k ((t - st) / round gap l) ((t - st) % round gap l) l (l.length : Int) i st gap l) (fun k i hi hk => ?_) (fun k => ?_) k (by omega)
  · simp only [impl_SlotAt.l0]
    have hb := upto_bd h i (by omega)
    have hsl := slotsOk_get h'.2.2.2 i hi
    rw [if_pos (by omega), if_pos (by omega), if_pos (by omega), wrap_succ hi (by omega), rdSl l i hi, iFrom h i (by omega) _ (by omega)]
    simp only [Option.bind_some, in_]
    rw [wrap_id (x := upto gap l i + l[i].f1) (by omega) (by omega), wrap_id (x := upto gap l i + l[i].f1 - 1) (by omega) (by omega), iOcc h i hi _ _ (by omega)]
    simp only [Option.bind_some]
    cases hc : inS gap l ((t - st) % round gap l) i with
    | true =>
      have := (inS_iff hi).1 hc
      rw [decide_eq_true (by omega), if_pos rfl, if_pos rfl]
      split <;> rfl
    | false =>
      have : ¬ (upto gap l i ≤ (t - st) % round gap l ∧ (t - st) % round gap l < upto gap l i + l[i].f1) := by rw [← inS_iff hi, hc]; simp
      rw [decide_eq_false (by omega), if_neg (by decide), if_neg (by decide)]
  · simp only [impl_SlotAt.l0]
    rw [if_neg (by omega)]
theorem sSlotAtQ {st gap : Int} {l : List Sl} (h : planOk st gap l = true) {t : Int} (ht : 0 ≤ t ∧ t ≤ 1000000000000) (hs : st ≤ t) (k : Nat) (hk : 60 ≤ k) : spec_SlotAt.j0 k t false st gap l = some (slotAtQ st gap l t) := by
  obtain ⟨k, rfl⟩ : ∃ j, k = j + 1 := ⟨k - 1, by omega⟩
  have hr := round_bd h
  have hq := when_q h ht hs
  have h' := h
  rw [planOk_iff] at h'
  simp only [spec_SlotAt.j0]
  rw [if_neg (by decide), sRoundOf' h _ (by omega)]
  simp only [Option.bind_some]
  rw [if_neg (by omega), wrap_id (x := t - st) (by omega) (by omega), Int.tdiv_eq_ediv_of_nonneg (by omega), wrap_id (by omega) (by omega)]
  have hL := find_loop0 (n := l.length) (c := 35) (L := fun k i => spec_SlotAt.l0 k t ((t - st) / round gap l) i st gap l) (Q := fun i => (occ st gap l i ((t - st) / round gap l)).2.2 && inS gap l ((t - st) % round gap l) i) (r := fun i => ((i : Int), (t - st) / round gap l, true)) (e := (0, 0, false)) (fun k i hi hk => ?_) (fun k => ?_) k (by omega)
  · rw [hL]
    congr 1
    unfold slotAtQ
    rcases first_of (Q := inS gap l ((t - st) % round gap l)) l.length with ⟨j, h1, h2, h3⟩ | h1
    · rw [found_some h1 h2 h3]
      cases ho : (occ st gap l j ((t - st) / round gap l)).2.2 with
      | true =>
        rw [if_pos rfl]
        refine found_some h1 (by rw [ho, h2]; rfl) (fun i hi => by rw [h3 i hi]; simp)
      | false =>
        rw [if_neg (by decide)]
        refine found_none (fun i hi => ?_)
        cases hc : inS gap l ((t - st) % round gap l) i with
        | false => simp
        | true => obtain rfl := inS_one h hi h1 hc h2; rw [ho]; rfl
    · rw [found_none h1]
      refine found_none (fun i hi => by rw [h1 i hi]; simp)
  · simp only [spec_SlotAt.l0]
    rw [if_pos (by omega), wrap_succ hi (by omega), sOcc h i hi _ _ (by omega)]
    simp only [Option.bind_some]
    cases ho : (occ st gap l i ((t - st) / round gap l)).2.2 with
    | false => simp
    | true =>
      have hio := occ_in h ht hs i hi ho
      rw [if_pos rfl, Bool.true_and]
      cases hc : inS gap l ((t - st) % round gap l) i with
      | true =>
        have := hio.2 hc
        rw [if_pos this.1, if_pos this.2, if_pos rfl]
      | false =>
        rw [hc] at hio
        by_cases hx : (occ st gap l i ((t - st) / round gap l)).1 ≤ t
        · rw [if_pos hx, if_neg (fun hy => by have := hio.1 ⟨hx, hy⟩; cases this), if_neg (by decide)]
        · rw [if_neg hx, if_neg (by decide)]
  · simp only [spec_SlotAt.l0]
    rw [if_neg (by omega)]
theorem iSlotAt (st gap : Int) (l : List Sl) (hl : l.length ≤ 1048576) (t : Int) (k : Nat) (hk : 1050000 ≤ k) : impl_SlotAt.f k st gap l t = some (slotAt st gap l t) := by
  have hj : ∀ k, 1 ≤ k → impl_SlotAt.j0 k t true st gap l = some (0, 0, false) := fun k hk => by
    obtain ⟨k, rfl⟩ : ∃ j, k = j + 1 := ⟨k - 1, by omega⟩
    simp only [impl_SlotAt.j0]; rfl
  unfold impl_SlotAt.f slotAt
  rw [iPlanOk st gap l hl k (by omega), isTime]
  simp only [Option.bind_some]
  change (if planOk st gap l = true then (if timeOk t = true then _ else _) else _) = _
  cases h : planOk st gap l with
  | false => rw [hj k (by omega)]; rfl
  | true =>
    cases h2 : timeOk t with
    | false => rw [hj k (by omega)]; rfl
    | true =>
      rw [timeOk_iff] at h2
      by_cases h3 : t < st
      · rw [decide_eq_true h3, hj k (by omega), decide_eq_false (by omega)]; rfl
      · rw [decide_eq_false h3, iSlotAtQ h h2 (by omega) k (by omega), decide_eq_true (by omega)]; rfl
theorem sSlotAt (st gap : Int) (l : List Sl) (hl : l.length ≤ 1048576) (t : Int) (k : Nat) (hk : 1050000 ≤ k) : spec_SlotAt.f k st gap l t = some (slotAt st gap l t) := by
  have hj : ∀ k, 1 ≤ k → spec_SlotAt.j0 k t true st gap l = some (0, 0, false) := fun k hk => by
    obtain ⟨k, rfl⟩ : ∃ j, k = j + 1 := ⟨k - 1, by omega⟩
    simp only [spec_SlotAt.j0]; rfl
  unfold spec_SlotAt.f slotAt
  rw [sPlanOk st gap l hl k (by omega), l2Time]
  simp only [Option.bind_some]
  change (if planOk st gap l = true then (if timeOk t = true then _ else _) else _) = _
  cases h : planOk st gap l with
  | false => rw [hj k (by omega)]; rfl
  | true =>
    cases h2 : timeOk t with
    | false => rw [hj k (by omega)]; rfl
    | true =>
      rw [timeOk_iff] at h2
      by_cases h3 : t < st
      · rw [decide_eq_true h3, hj k (by omega), decide_eq_false (by omega)]; rfl
      · rw [decide_eq_false h3, sSlotAtQ h h2 (by omega) k (by omega), decide_eq_true (by omega)]; rfl
theorem slotAt_in {st gap : Int} {l : List Sl} {t : Int} (h : (slotAt st gap l t).2.2 = true) : ∃ i : Nat, i < l.length ∧ (slotAt st gap l t).1 = (i : Int) ∧ planOk st gap l = true ∧ timeOk t = true ∧ st ≤ t ∧ (slotAt st gap l t).2.1 = (t - st) / round gap l ∧ inS gap l ((t - st) % round gap l) i = true ∧ (occ st gap l i ((t - st) / round gap l)).2.2 = true := by
  unfold slotAt at h ⊢
  split at h
  · rename_i hc
    rw [if_pos hc]
    simp only [Bool.and_eq_true, decide_eq_true_eq] at hc
    unfold slotAtQ at h ⊢
    rcases first_of (Q := inS gap l ((t - st) % round gap l)) l.length with ⟨j, h1, h2, h3⟩ | h1
    · rw [found_some h1 h2 h3] at h ⊢
      split at h
      · rename_i ho
        rw [if_pos ho]
        exact ⟨j, h1, rfl, hc.1.1, hc.1.2, hc.2, rfl, h2, ho⟩
      · simp at h
    · rw [found_none h1] at h; simp at h
  · simp at h
def inSlot (st gap : Int) (l : List Sl) (owner a b : Int) : Int × Int × Bool :=
  if (slotAt st gap l a).2.2 = true ∧ (match l[(slotAt st gap l a).1.toNat]? with | some x => x.f0 | none => -1) = owner ∧ a ≤ b ∧ b ≤ (occurrence st gap l (slotAt st gap l a).1 (slotAt st gap l a).2.1).2.1
  then ((slotAt st gap l a).1, (slotAt st gap l a).2.1, true) else (0, 0, false)
theorem sInSlot (st gap : Int) (l : List Sl) (hl : l.length ≤ 1048576) (owner a b : Int) (k : Nat) (hk : 1050200 ≤ k) : spec_InSlot.f k st gap l owner a b = some (inSlot st gap l owner a b) := by
  obtain ⟨k, rfl⟩ : ∃ j, k = j + 1 := ⟨k - 1, by omega⟩
  unfold spec_InSlot.f inSlot
  rw [sSlotAt st gap l hl a _ (by omega)]
  simp only [Option.bind_some, spec_InSlot.j0]
  rw [sOccurrence st gap l hl _ _ _ (by omega)]
  simp only [Option.bind_some, if_true]
  cases h : (slotAt st gap l a).2.2 with
  | false => simp
  | true =>
    obtain ⟨i, hi, e, _⟩ := slotAt_in h
    rw [if_pos rfl, e, if_pos (by omega), if_pos (by omega), rdSl l i hi]
    have e2 : ((i : Int)).toNat = i := by omega
    rw [e2, List.getElem?_eq_getElem hi]
    simp only
    by_cases h1 : l[i].f0 = owner
    · rw [if_pos h1]
      by_cases h2 : a > b
      · rw [decide_eq_true h2, if_pos rfl, if_neg (by omega)]
      · rw [decide_eq_false h2, if_neg (by decide)]
        by_cases h3 : b > (occurrence st gap l (i : Int) (slotAt st gap l a).2.1).2.1
        · rw [if_pos h3, if_neg (by omega)]
        · rw [if_neg h3, if_pos ⟨trivial, h1, by omega, by omega⟩]
    · rw [if_neg h1, if_neg (fun hx => h1 hx.2.1)]
theorem iInSlot (st gap : Int) (l : List Sl) (hl : l.length ≤ 1048576) (owner a b : Int) (k : Nat) (hk : 1050200 ≤ k) : impl_InSlot.f k st gap l owner a b = some (inSlot st gap l owner a b) := by
  obtain ⟨k, rfl⟩ : ∃ j, k = j + 1 := ⟨k - 1, by omega⟩
  unfold impl_InSlot.f inSlot
  rw [iSlotAt st gap l hl a _ (by omega)]
  simp only [Option.bind_some, impl_InSlot.j0]
  rw [iOccurrence st gap l hl _ _ _ (by omega)]
  simp only [Option.bind_some, if_true]
  cases h : (slotAt st gap l a).2.2 with
  | false => simp
  | true =>
    obtain ⟨i, hi, e, _⟩ := slotAt_in h
    rw [if_pos rfl, e, if_pos (by omega), if_pos (by omega), rdSl l i hi]
    have e2 : ((i : Int)).toNat = i := by omega
    rw [e2, List.getElem?_eq_getElem hi]
    simp only
    by_cases h1 : l[i].f0 = owner
    · rw [if_pos h1]
      by_cases h2 : a > b
      · rw [decide_eq_true h2, if_pos rfl, if_neg (by omega)]
      · rw [decide_eq_false h2, if_neg (by decide)]
        by_cases h3 : b > (occurrence st gap l (i : Int) (slotAt st gap l a).2.1).2.1
        · rw [if_pos h3, if_neg (by omega)]
        · rw [if_neg h3, if_pos ⟨trivial, h1, by omega, by omega⟩]
    · rw [if_neg h1, if_neg (fun hx => h1 hx.2.1)]
end Go.Proofs.Ytejohmompmjhnaa.C
namespace Go.Proofs.Ytejohmompmjhnaa.C
open Go.RowKit Go.Proofs.Ytejohmompmjhnaa.P Go.Proofs.Ytejohmompmjhnaa.G
def driftOk (n d : Int) : Bool := decide (1 ≤ d ∧ d ≤ 1000000) && decide (0 ≤ n ∧ n ≤ d) && decide (2 * n ≤ d)
theorem driftOk_iff (n d : Int) : driftOk n d = true ↔ 1 ≤ d ∧ d ≤ 1000000 ∧ 0 ≤ n ∧ 2 * n ≤ d := by
  unfold driftOk; simp; omega
theorem sDriftOk (n d : Int) : spec_DriftOk.f n d = some (driftOk n d) := by
  unfold spec_DriftOk.f driftOk; simp only [l1In, Option.bind_some]
  by_cases h1 : (1 ≤ d ∧ d ≤ 1000000)
  · by_cases h2 : (0 ≤ n ∧ n ≤ d)
    · rw [wrap_id (by omega) (by omega)]; simp [h1, h2]
    · simp [h1, h2]
  · simp [h1]
theorem iDriftOk (n d : Int) : impl_DriftOk.f n d = some (driftOk n d) := by
  unfold impl_DriftOk.f driftOk; simp only [in_, Option.bind_some]
  by_cases h1 : (1 ≤ d ∧ d ≤ 1000000)
  · by_cases h2 : (0 ≤ n ∧ n ≤ d)
    · rw [wrap_id (by omega) (by omega)]; simp [h1, h2]
    · simp [h1, h2]
  · simp [h1]
theorem mul_bd {x d : Int} (hx : 0 ≤ x ∧ x ≤ 1000000000000) (hd : 0 ≤ d ∧ d ≤ 1000000) : 0 ≤ x * d ∧ x * d ≤ 1000000000000000000 := by
  refine ⟨Int.mul_nonneg hx.1 hd.1, ?_⟩
  calc x * d ≤ 1000000000000 * d := Int.mul_le_mul_of_nonneg_right hx.2 hd.1
    _ ≤ 1000000000000 * 1000000 := Int.mul_le_mul_of_nonneg_left hd.2 (by omega)
theorem ediv_bd {a b : Int} (ha : 0 ≤ a) (hb : 1 ≤ b) : 0 ≤ a / b ∧ a / b ≤ a :=
  ⟨Int.ediv_nonneg ha (by omega), Int.ediv_le_self _ ha⟩
theorem down_eq {a b : Int} (hb : 1 ≤ b) : (if Int.tmod a b < 0 then Int.tdiv a b - 1 else Int.tdiv a b) = a / b := by
  have h1 := Int.mul_tdiv_add_tmod a b
  have h2 := Int.mul_ediv_add_emod a b
  have h3 := Int.emod_nonneg a (by omega : b ≠ 0)
  have h4 := Int.emod_lt_of_pos a (by omega : 0 < b)
  have h5 := Int.tmod_lt_of_pos a (by omega : 0 < b)
  rcases Int.lt_or_le a 0 with h | h
  · have h6 : -b < Int.tmod a b := by
      have := Int.tmod_lt_of_pos (-a) (by omega : 0 < b); rw [Int.neg_tmod] at this; omega
    split
    · have e : b * (Int.tdiv a b - 1) + (Int.tmod a b + b) = b * (a / b) + a % b := by rw [Int.mul_sub, Int.mul_one]; omega
      have : b * (Int.tdiv a b - 1 - a / b) = a % b - (Int.tmod a b + b) := by rw [Int.mul_sub]; omega
      rcases Int.lt_trichotomy (Int.tdiv a b - 1 - a / b) 0 with c | c | c
      · have : b * (Int.tdiv a b - 1 - a / b) ≤ b * (-1) := Int.mul_le_mul_of_nonneg_left (by omega) (by omega); omega
      · omega
      · have : b * 1 ≤ b * (Int.tdiv a b - 1 - a / b) := Int.mul_le_mul_of_nonneg_left (by omega) (by omega); omega
    · rename_i h7
      have : b * (Int.tdiv a b - a / b) = a % b - Int.tmod a b := by rw [Int.mul_sub]; omega
      rcases Int.lt_trichotomy (Int.tdiv a b - a / b) 0 with c | c | c
      · have : b * (Int.tdiv a b - a / b) ≤ b * (-1) := Int.mul_le_mul_of_nonneg_left (by omega) (by omega); omega
      · omega
      · have : b * 1 ≤ b * (Int.tdiv a b - a / b) := Int.mul_le_mul_of_nonneg_left (by omega) (by omega); omega
  · rw [if_neg (by have := Int.tmod_nonneg b h; omega), Int.tdiv_eq_ediv_of_nonneg h]
theorem iDown {a b : Int} (hb : 1 ≤ b) (ha : -1000000000000000000 ≤ a ∧ a ≤ 1000000000000000000) : impl_down.f a b = some (a / b) := by
  have hd := down_eq (a := a) hb
  have hq : -1000000000000000000 ≤ a / b ∧ a / b ≤ 1000000000000000000 := by
    rcases Int.lt_or_le a 0 with h | h
    · have h2 := Int.mul_ediv_add_emod a b
      have h3 := Int.emod_nonneg a (by omega : b ≠ 0)
      have h4 : a / b < 0 := Int.ediv_neg_of_neg_of_pos h (by omega)
      have h5 : a ≤ a / b := by
        have e : b * (a / b) ≤ 1 * (a / b) := by
          have := Int.mul_le_mul_of_nonpos_right hb (by omega : a / b ≤ 0); exact this
        have h6 := Int.emod_lt_of_pos a (by omega : 0 < b)
        rcases Int.lt_or_le (a / b) a with c | c
        · have : b * (a / b) ≤ b * (a - 1) := Int.mul_le_mul_of_nonneg_left (by omega) (by omega)
          have : b * (a - 1) = b * a - b := by rw [Int.mul_sub, Int.mul_one]
          have : b * a ≤ 1 * a := Int.mul_le_mul_of_nonpos_right hb (by omega)
          omega
        · exact c
      omega
    · have := ediv_bd h hb; omega
  unfold impl_down.f
  rw [if_neg (by omega)]
  by_cases h : Int.tmod a b < 0
  · rw [if_pos h] at hd ⊢
    rw [wrap_id (x := Int.tdiv a b) (by omega) (by omega), hd, wrap_id (by omega) (by omega)]
  · rw [if_neg h] at hd ⊢
    rw [hd, wrap_id (by omega) (by omega)]
theorem sDown {a b : Int} (hb : 1 ≤ b) (ha : -1000000000000000000 ≤ a ∧ a ≤ 1000000000000000000) : spec_l1Down.f a b = some (a / b) := iDown hb ha
def mostTime (n d x : Int) : Int × Bool := if (driftOk n d && timeOk x) = true then (if x * d / (d - n) ≤ 1000000000000 then (x * d / (d - n), true) else (0, false)) else (0, false)
def leastTime (n d x : Int) : Int × Bool := if (driftOk n d && timeOk x) = true then (if -(-(x * d) / (d + n)) ≤ 1000000000000 then (-(-(x * d) / (d + n)), true) else (0, false)) else (0, false)
theorem told (x : Int) : spec_l2Told.f x = some (if x ≤ 1000000000000 then (x, true) else (0, false)) := by
  unfold spec_l2Told.f; by_cases h : x > 1000000000000
  · rw [if_pos h, if_neg (by omega)]
  · rw [if_neg h, if_pos (by omega)]
theorem up_bd {x n d : Int} (h : driftOk n d = true) (hx : timeOk x = true) : -(1000000000000000000 : Int) ≤ -(-(x * d) / (d + n)) ∧ -(-(x * d) / (d + n)) ≤ 1000000000000000000 := by
  rw [driftOk_iff] at h; rw [timeOk_iff] at hx
  have hm := mul_bd hx (d := d) (by omega)
  have h2 := Int.mul_ediv_add_emod (-(x * d)) (d + n)
  have h3 := Int.emod_nonneg (-(x * d)) (by omega : d + n ≠ 0)
  have h4 := Int.emod_lt_of_pos (-(x * d)) (by omega : 0 < d + n)
  have h5 : -(x * d) / (d + n) ≤ 0 := by
    rcases Int.lt_or_le 0 (-(x * d) / (d + n)) with c | c
    · have : (d + n) * 1 ≤ (d + n) * (-(x * d) / (d + n)) := Int.mul_le_mul_of_nonneg_left (by omega) (by omega); omega
    · exact c
  have h6 : -(x * d) ≤ -(x * d) / (d + n) := by
    rcases Int.lt_or_le (-(x * d) / (d + n)) (-(x * d)) with c | c
    · have e1 : (d + n) * (-(x * d) / (d + n)) ≤ (d + n) * (-(x * d) - 1) := Int.mul_le_mul_of_nonneg_left (by omega) (by omega)
      have e2 : (d + n) * (-(x * d) - 1) = (d + n) * (-(x * d)) - (d + n) := by rw [Int.mul_sub, Int.mul_one]
      have e3 : (d + n) * (-(x * d)) ≤ 1 * (-(x * d)) := Int.mul_le_mul_of_nonpos_right (by omega) (by omega)
      omega
    · exact c
  omega
theorem sMostTime (k : Nat) (n d x : Int) (hk : 1 ≤ k) : spec_MostTime.f k n d x = some (mostTime n d x) := by
  obtain ⟨k, rfl⟩ : ∃ j, k = j + 1 := ⟨k - 1, by omega⟩
  unfold spec_MostTime.f mostTime; simp only [sDriftOk, l2Time, Option.bind_some, spec_MostTime.j0]
  change (if driftOk n d = true then (if (!timeOk x) = true then _ else _) else _) = _
  cases h1 : driftOk n d with
  | false => simp
  | true =>
    cases h2 : timeOk x with
    | false => simp
    | true =>
      rw [driftOk_iff] at h1; rw [timeOk_iff] at h2
      have hm := mul_bd h2 (d := d) (by omega)
      simp only [Bool.not_true, Bool.false_eq_true, if_false, if_true, Bool.and_true]
      rw [wrap_id (x := x * d) (by omega) (by omega), wrap_id (x := d - n) (by omega) (by omega), sDown (by omega) (by omega)]
      simp only [Option.bind_some, told]
theorem iBounded (n d x y : Int) : impl_bounded.f n d x y = some (if (driftOk n d && timeOk x) = true then (if y ≤ 1000000000000 then (y, true) else (0, false)) else (0, false)) := by
  unfold impl_bounded.f; simp only [iDriftOk, isTime, Option.bind_some]
  change (if driftOk n d = true then (if timeOk x = true then _ else _) else _) = _
  cases h1 : driftOk n d <;> cases h2 : timeOk x <;> simp
  split <;> rfl
theorem iMostTime (n d x : Int) : impl_MostTime.f n d x = some (mostTime n d x) := by
  unfold impl_MostTime.f mostTime; simp only [iDriftOk, Option.bind_some, iBounded]
  cases h1 : driftOk n d with
  | false => simp
  | true =>
    have h1' := h1
    rw [driftOk_iff] at h1'
    rw [if_pos rfl, wrap_id (x := d - n) (by omega) (by omega), if_neg (by omega)]
    cases h2 : timeOk x with
    | false => simp
    | true =>
      rw [timeOk_iff] at h2
      have hm := mul_bd h2 (d := d) (by omega)
      have hq := ediv_bd hm.1 (b := d - n) (by omega)
      rw [wrap_id (x := x * d) (by omega) (by omega), Int.tdiv_eq_ediv_of_nonneg hm.1, wrap_id (by omega) (by omega)]
theorem sLeastTime (k : Nat) (n d x : Int) (hk : 1 ≤ k) : spec_LeastTime.f k n d x = some (leastTime n d x) := by
  obtain ⟨k, rfl⟩ : ∃ j, k = j + 1 := ⟨k - 1, by omega⟩
  unfold spec_LeastTime.f leastTime; simp only [sDriftOk, l2Time, Option.bind_some, spec_LeastTime.j0]
  change (if driftOk n d = true then (if (!timeOk x) = true then _ else _) else _) = _
  cases h1 : driftOk n d with
  | false => simp
  | true =>
    cases h2 : timeOk x with
    | false => simp
    | true =>
      have hu := up_bd h1 h2
      rw [driftOk_iff] at h1; rw [timeOk_iff] at h2
      have hm := mul_bd h2 (d := d) (by omega)
      simp only [Bool.not_true, Bool.false_eq_true, if_false, if_true, Bool.and_true]
      unfold spec_l1Up.f
      rw [wrap_id (x := x * d) (by omega) (by omega), wrap_id (x := d + n) (by omega) (by omega), wrap_id (x := -(x * d)) (by omega) (by omega), sDown (by omega) (by omega)]
      simp only [Option.bind_some]
      rw [wrap_id (by omega) (by omega)]
      simp only [told, Option.bind_some]
theorem iLeastTime (n d x : Int) (hx : -9223372036854775808 ≤ x ∧ x ≤ 9223372036854775807) : impl_LeastTime.f n d x = some (leastTime n d x) := by
  unfold impl_LeastTime.f leastTime; simp only [iDriftOk, Option.bind_some]
  cases h1 : driftOk n d with
  | false => simp [iBounded, h1]
  | true =>
    have h1' := h1
    rw [driftOk_iff] at h1'
    rw [if_pos rfl, wrap_id (x := d + n) (by omega) (by omega)]
    cases h2 : timeOk x with
    | false =>
      unfold impl_up.f impl_down.f
      rw [if_neg (by omega)]
      have : ∃ v, (if (wrap64 (-wrap64 (x * d))).tmod (d + n) < 0 then some (wrap64 (wrap64 ((wrap64 (-wrap64 (x * d))).tdiv (d + n)) - 1)) else some (wrap64 ((wrap64 (-wrap64 (x * d))).tdiv (d + n)))) = some v := by split <;> exact ⟨_, rfl⟩
      obtain ⟨v, hv⟩ := this
      rw [hv]; simp [iBounded, h1, h2]
    | true =>
      have hu := up_bd h1 h2
      have h2' := h2
      rw [timeOk_iff] at h2'
      have hm := mul_bd h2' (d := d) (by omega)
      unfold impl_up.f
      rw [wrap_id (x := x * d) (by omega) (by omega), wrap_id (x := -(x * d)) (by omega) (by omega), iDown (by omega) (by omega)]
      simp only [Option.bind_some]
      rw [wrap_id (by omega) (by omega), iBounded, h1, h2]
def spread (a b x y : Int) : Int × Int × Bool := if ivalOk a b && decide (0 ≤ x ∧ x ≤ 2000000000000) && decide (0 ≤ y ∧ y ≤ 2000000000000) then ivalT (a - x) (b + y) else (0, 0, false)
theorem sSpread (a b x y : Int) : spec_Spread.f a b x y = some (spread a b x y) := by
  unfold spec_Spread.f spread; simp only [sIvalOk, l1In, Option.bind_some]
  cases h1 : ivalOk a b with
  | false => simp
  | true =>
    rw [ivalOk_iff] at h1
    by_cases h2 : (0 ≤ x ∧ x ≤ 2000000000000)
    · by_cases h3 : (0 ≤ y ∧ y ≤ 2000000000000)
      · rw [wrap_id (by omega) (by omega), wrap_id (by omega) (by omega)]; simp [h2, h3, sTold]
      · simp [h2, h3]
    · simp [h2]
theorem iSpread (a b x y : Int) : impl_Spread.f a b x y = some (spread a b x y) := by
  unfold impl_Spread.f spread; simp only [iIvalOk, in_, Option.bind_some]
  cases h1 : ivalOk a b with
  | false => simp
  | true =>
    rw [ivalOk_iff] at h1
    by_cases h2 : (0 ≤ x ∧ x ≤ 2000000000000)
    · by_cases h3 : (0 ≤ y ∧ y ≤ 2000000000000)
      · rw [wrap_id (by omega) (by omega), wrap_id (by omega) (by omega)]; simp [h2, h3, iIval]
      · simp [h2, h3]
    · simp [h2]
def gateSpan (a b n d x : Int) : Int × Int × Bool := if (mostTime n d x).2 = true then (if x < 1 then (0, 0, false) else spread a b 0 (mostTime n d x).1) else (0, 0, false)
theorem sGateSpan (k : Nat) (a b n d x : Int) (hk : 1 ≤ k) : spec_GateSpan.f k a b n d x = some (gateSpan a b n d x) := by
  unfold spec_GateSpan.f gateSpan; simp only [sMostTime k n d x hk, sSpread, Option.bind_some]
  split
  · split <;> rfl
  · rfl
theorem iGateSpan (a b n d x : Int) : impl_GateSpan.f a b n d x = some (gateSpan a b n d x) := by
  unfold impl_GateSpan.f gateSpan; simp only [iMostTime n d x, iSpread, Option.bind_some]
  split
  · split <;> rfl
  · rfl
end Go.Proofs.Ytejohmompmjhnaa.C
