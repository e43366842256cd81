/- Texts of the seat's proofs, part 6: functions of the program told as plain functions, with their contracts, and what is shown of them. No condition. -/
import Derived.Test.YtejohmompmjhnaaU
import Derived.Test.YtejohmompmjhnaaM1
import Derived.Test.YtejohmompmjhnaaM3
import Derived.Test.YtejohmompmjhnaaM4
import Derived.Test.YtejohmompmjhnaaM5
set_option linter.unusedVariables false
set_option linter.unusedSimpArgs false
namespace Go.Proofs.Ytejohmompmjhnaa.P
open Go.RowKit Go.Proofs.YtejohmompmjhnaaW.PrintWords Go.Proofs.YtejohmompmjhnaaW.PrintLast Go.Proofs.YtejohmompmjhnaaW.PrintMore
attribute [local go_sem] max2_int min2_int max_two min_two max_three min_three max_four min_four
set_option linter.unusedVariables false
set_option linter.unusedSimpArgs false
mutual
def impl_GateAsk.j0 : Nat → Bool → Int → Int → Bool → Int → Int → Int → Int → Int → Int → List (S55) → Option (Int × Int × Int)
  | 0, _, _, _, _, _, _, _, _, _, _, _ => none
  | k + 1, x1, x3, x5, x45, x304000, x304001, x305000, x305001, x306000, x306001, x306002 => if x45 = true then (some (0, 0, 1)) else ((impl_GateSpan.f x304000 x304001 x305000 x305001 x3).bind fun bt315 => (if x1 = true then (impl_GateAsk.j1 k x5 (!bt315.2.2) x306000 x306001 x306002 bt315.1 bt315.2.1) else (impl_GateAsk.j1 k x5 true x306000 x306001 x306002 bt315.1 bt315.2.1)))
def impl_GateAsk.j1 : Nat → Int → Bool → Int → Int → List (S55) → Int → Int → Option (Int × Int × Int)
  | 0, _, _, _, _, _, _, _ => none
  | k + 1, x5, x58, x306000, x306001, x306002, x319000, x319001 => if x58 = true then (some (0, 0, 2)) else ((impl_InSlot.f k x306000 x306001 x306002 x5 x319000 x319001).bind fun bt319 => (if bt319.2.2 = true then (some (bt319.1, bt319.2.1, 0)) else (some (0, 0, 2))))
end
def impl_GateAsk.f (k : Nat) (a0_0 : Int) (a0_1 : Int) (a1 : Bool) (a2_0 : Int) (a2_1 : Int) (a3 : Int) (a4_0 : Int) (a4_1 : Int) (l4_2 : List (S55)) (a5 : Int) : Option (Int × Int × Int) := if a1 = true then ((impl_IvalOk.f a0_0 a0_1).bind fun t306 => (if t306 = true then ((impl_DriftOk.f a2_0 a2_1).bind fun t307 => (if t307 = true then ((impl_in.f a3 1 1000000000000).bind fun t308 => (if t308 = true then ((impl_PlanOk.f k a4_0 a4_1 l4_2).bind fun t309 => (if t309 = true then ((impl_isNode.f a5).bind fun t310 => (impl_GateAsk.j0 k a1 a3 a5 (!t310) a0_0 a0_1 a2_0 a2_1 a4_0 a4_1 l4_2)) else (impl_GateAsk.j0 k a1 a3 a5 true a0_0 a0_1 a2_0 a2_1 a4_0 a4_1 l4_2))) else (impl_GateAsk.j0 k a1 a3 a5 true a0_0 a0_1 a2_0 a2_1 a4_0 a4_1 l4_2))) else (impl_GateAsk.j0 k a1 a3 a5 true a0_0 a0_1 a2_0 a2_1 a4_0 a4_1 l4_2))) else (impl_GateAsk.j0 k a1 a3 a5 true a0_0 a0_1 a2_0 a2_1 a4_0 a4_1 l4_2))) else ((impl_DriftOk.f a2_0 a2_1).bind fun t311 => (if t311 = true then ((impl_in.f a3 1 1000000000000).bind fun t312 => (if t312 = true then ((impl_PlanOk.f k a4_0 a4_1 l4_2).bind fun t313 => (if t313 = true then ((impl_isNode.f a5).bind fun t314 => (impl_GateAsk.j0 k a1 a3 a5 (!t314) a0_0 a0_1 a2_0 a2_1 a4_0 a4_1 l4_2)) else (impl_GateAsk.j0 k a1 a3 a5 true a0_0 a0_1 a2_0 a2_1 a4_0 a4_1 l4_2))) else (impl_GateAsk.j0 k a1 a3 a5 true a0_0 a0_1 a2_0 a2_1 a4_0 a4_1 l4_2))) else (impl_GateAsk.j0 k a1 a3 a5 true a0_0 a0_1 a2_0 a2_1 a4_0 a4_1 l4_2)))
theorem impl_GateAsk.mono_l : ∀ k, (∀ y0 y1 y2 y3 y4 y5 y6 y7 y8 y9 y10, LeO (impl_GateAsk.j0 k y0 y1 y2 y3 y4 y5 y6 y7 y8 y9 y10) (impl_GateAsk.j0 (k + 1) y0 y1 y2 y3 y4 y5 y6 y7 y8 y9 y10)) ∧ (∀ y0 y1 y2 y3 y4 y5 y6, LeO (impl_GateAsk.j1 k y0 y1 y2 y3 y4 y5 y6) (impl_GateAsk.j1 (k + 1) y0 y1 y2 y3 y4 y5 y6))
  | 0 => ⟨fun _ _ _ _ _ _ _ _ _ _ _ r h => by simp [impl_GateAsk.j0] at h, fun _ _ _ _ _ _ _ r h => by simp [impl_GateAsk.j1] at h⟩
  | k + 1 => by
    obtain ⟨ih0, ih1⟩ := impl_GateAsk.mono_l k
    refine ⟨?_, ?_⟩
    · intro y0 y1 y2 y3 y4 y5 y6 y7 y8 y9 y10
      unfold impl_GateAsk.j0
      repeat' first
      | (with_reducible exact ih0 _ _ _ _ _ _ _ _ _ _ _)
      | (with_reducible exact ih1 _ _ _ _ _ _ _)
      | (with_reducible exact impl_InSlot.mono _ _ _ _ _ _ _)
      | (with_reducible exact impl_PlanOk.mono _ _ _ _)
      | (with_reducible exact LeO.refl _)
      | (with_reducible exact LeO.none _)
      | (with_reducible refine LeO.ite ?_ ?_)
      | (with_reducible refine LeO.bind ?_ (fun _ => ?_))
      | exact ih0 _ _ _ _ _ _ _ _ _ _ _
      | exact ih1 _ _ _ _ _ _ _
      | exact impl_InSlot.mono _ _ _ _ _ _ _
      | exact impl_PlanOk.mono _ _ _ _
      | exact LeO.none _
      | refine LeO.ite ?_ ?_
      | refine LeO.bind ?_ (fun _ => ?_)
    · intro y0 y1 y2 y3 y4 y5 y6
      unfold impl_GateAsk.j1
      repeat' first
      | (with_reducible exact ih0 _ _ _ _ _ _ _ _ _ _ _)
      | (with_reducible exact ih1 _ _ _ _ _ _ _)
      | (with_reducible exact impl_InSlot.mono _ _ _ _ _ _ _)
      | (with_reducible exact impl_PlanOk.mono _ _ _ _)
      | (with_reducible exact LeO.refl _)
      | (with_reducible exact LeO.none _)
      | (with_reducible refine LeO.ite ?_ ?_)
      | (with_reducible refine LeO.bind ?_ (fun _ => ?_))
      | exact ih0 _ _ _ _ _ _ _ _ _ _ _
      | exact ih1 _ _ _ _ _ _ _
      | exact impl_InSlot.mono _ _ _ _ _ _ _
      | exact impl_PlanOk.mono _ _ _ _
      | exact LeO.none _
      | refine LeO.ite ?_ ?_
      | refine LeO.bind ?_ (fun _ => ?_)
theorem impl_GateAsk.mono : ∀ a0 a1 a2 a3 a4 a5 a6 a7 a8 a9 k, LeO (impl_GateAsk.f k a0 a1 a2 a3 a4 a5 a6 a7 a8 a9) (impl_GateAsk.f (k + 1) a0 a1 a2 a3 a4 a5 a6 a7 a8 a9) := by
  intro a0 a1 a2 a3 a4 a5 a6 a7 a8 a9 k
  obtain ⟨ih0, ih1⟩ := impl_GateAsk.mono_l k
  unfold impl_GateAsk.f
  repeat' first
      | (with_reducible exact ih0 _ _ _ _ _ _ _ _ _ _ _)
      | (with_reducible exact ih1 _ _ _ _ _ _ _)
      | (with_reducible exact impl_InSlot.mono _ _ _ _ _ _ _)
      | (with_reducible exact impl_PlanOk.mono _ _ _ _)
      | (with_reducible exact LeO.refl _)
      | (with_reducible exact LeO.none _)
      | (with_reducible refine LeO.ite ?_ ?_)
      | (with_reducible refine LeO.bind ?_ (fun _ => ?_))
      | exact ih0 _ _ _ _ _ _ _ _ _ _ _
      | exact ih1 _ _ _ _ _ _ _
      | exact impl_InSlot.mono _ _ _ _ _ _ _
      | exact impl_PlanOk.mono _ _ _ _
      | exact LeO.none _
      | refine LeO.ite ?_ ?_
      | refine LeO.bind ?_ (fun _ => ?_)
set_option maxHeartbeats 8000000 in
set_option maxRecDepth 100000 in
theorem impl_GateAsk.calls (k : Nat) (a0_0 : Int) (a0_1 : Int) (a1 : Bool) (a2_0 : Int) (a2_1 : Int) (a3 : Int) (a4_0 : Int) (a4_1 : Int) (A4_2 : Option Addr) (c4_2 : Nat) (l4_2 : List (S55)) (a5 : Int) (r1 : Int) (r2 : Int) (r3 : Int) (w : World) (hr4_2 : Kd.C k55 w A4_2 l4_2.length l4_2) (hc4_2 : l4_2.length ≤ c4_2) (h : impl_GateAsk.f k a0_0 a0_1 a1 a2_0 a2_1 a3 a4_0 a4_1 l4_2 a5 = some (r1, r2, r3)) :
    Calls Try.prog 14 #[.agg #[.int .i64 a0_0, .int .i64 a0_1], .bool a1, .agg #[.int .i64 a2_0, .int .i64 a2_1], .int .i64 a3, .agg #[.int .i64 a4_0, .int .i64 a4_1, .slice A4_2 l4_2.length c4_2], .int .i64 a5] w fun e w' => e = .returned (.tuple #[.int .i64 r1, .int .i64 r2, .int .i64 r3]) ∧ Below w.heap.size w w' := by
  have hu32 := Try.underlying32
  have hu34 := Try.underlying34
  have hu38 := Try.underlying38
  have HR4_2 := Aside0.mk hr4_2
  have HC4_2 := Aside0.mk hc4_2
  clear hr4_2 hc4_2
  have HB := Aside0.mk (Below.refl w.heap.size w)
  have H : (if a1 = true then ((impl_IvalOk.f a0_0 a0_1).bind fun t306 => (if t306 = true then ((impl_DriftOk.f a2_0 a2_1).bind fun t307 => (if t307 = true then ((impl_in.f a3 1 1000000000000).bind fun t308 => (if t308 = true then ((impl_PlanOk.f k a4_0 a4_1 l4_2).bind fun t309 => (if t309 = true then ((impl_isNode.f a5).bind fun t310 => (impl_GateAsk.j0 k a1 a3 a5 (!t310) a0_0 a0_1 a2_0 a2_1 a4_0 a4_1 l4_2)) else (impl_GateAsk.j0 k a1 a3 a5 true a0_0 a0_1 a2_0 a2_1 a4_0 a4_1 l4_2))) else (impl_GateAsk.j0 k a1 a3 a5 true a0_0 a0_1 a2_0 a2_1 a4_0 a4_1 l4_2))) else (impl_GateAsk.j0 k a1 a3 a5 true a0_0 a0_1 a2_0 a2_1 a4_0 a4_1 l4_2))) else (impl_GateAsk.j0 k a1 a3 a5 true a0_0 a0_1 a2_0 a2_1 a4_0 a4_1 l4_2))) else ((impl_DriftOk.f a2_0 a2_1).bind fun t311 => (if t311 = true then ((impl_in.f a3 1 1000000000000).bind fun t312 => (if t312 = true then ((impl_PlanOk.f k a4_0 a4_1 l4_2).bind fun t313 => (if t313 = true then ((impl_isNode.f a5).bind fun t314 => (impl_GateAsk.j0 k a1 a3 a5 (!t314) a0_0 a0_1 a2_0 a2_1 a4_0 a4_1 l4_2)) else (impl_GateAsk.j0 k a1 a3 a5 true a0_0 a0_1 a2_0 a2_1 a4_0 a4_1 l4_2))) else (impl_GateAsk.j0 k a1 a3 a5 true a0_0 a0_1 a2_0 a2_1 a4_0 a4_1 l4_2))) else (impl_GateAsk.j0 k a1 a3 a5 true a0_0 a0_1 a2_0 a2_1 a4_0 a4_1 l4_2)))) = some (r1, r2, r3) := h
  clear h
  have HC7 := Aside0.mk H
  clear H
  go_enter Try.func14, Try.ntmps14
  go_upto_region 1 with (first | ((with_reducible refine gate_dst (N := 6) rfl ?_); refine box_event ?hg (N := 6) ?hd (cs := #[.int .i64 a0_0, .int .i64 a0_1]) (t := 32) ?hr ?_; (case hd => rfl); (case hg => rfl); (case hr => first | (go_simp; done) | (go_simp; rfl)); intro gb303 hg w8 hbox hb; have n0_ := Aside0.mk (below_step (hb_ HB.out) hb); have n1_ := Aside0.mk (hbox); have n2_ := Aside0.mk ((by rw [hg]; exact (below_size (hb_ HB.out)) : w.heap.size ≤ gb303)); have n3_ := Aside0.mk ((by rw [hg]; exact (below_size (hb_ HB.out)) : w.heap.size ≤ gb303)); clear HB; have HB := n0_; have BK303 := n1_; have GW303 := n2_; have GE303 := n3_; clear n0_ n1_ n2_ n3_; clear hb hbox hg) | ((with_reducible refine gate_dst (N := 8) rfl ?_); refine box_event ?hg (N := 8) ?hd (cs := #[.int .i64 a2_0, .int .i64 a2_1]) (t := 34) ?hr ?_; (case hd => rfl); (case hg => rfl); (case hr => first | (go_simp; done) | (go_simp; rfl)); intro gb304 hg w9 hbox hb; have n0_ := Aside0.mk (bb_ BK303.out hb); have n1_ := Aside0.mk (below_step (hb1_ HB.out GE303.out) hb); have n2_ := Aside0.mk (hbox); have n3_ := Aside0.mk ((by rw [hg]; exact (below_size (hb1_ HB.out GE303.out)) : w.heap.size ≤ gb304)); have n4_ := Aside0.mk ((by rw [hg]; exact (below_size (hb1_ HB.out GE303.out)) : w.heap.size ≤ gb304)); have n5_ := Aside0.mk ((bl_ hg BK303.out : gb303 ≠ gb304)); have n6_ := Aside0.mk ((bg_ hg BK303.out : gb304 ≠ gb303)); clear BK303; clear HB; have BK303 := n0_; have HB := n1_; have BK304 := n2_; have GW304 := n3_; have GE304 := n4_; have NB303_304 := n5_; have NB304_303 := n6_; clear n0_ n1_ n2_ n3_ n4_ n5_ n6_; clear hb hbox hg) | ((with_reducible refine gate_dst (N := 10) rfl ?_); refine box_event ?hg (N := 10) ?hd (cs := #[.int .i64 a4_0, .int .i64 a4_1, .slice A4_2 l4_2.length c4_2]) (t := 38) ?hr ?_; (case hd => rfl); (case hg => rfl); (case hr => first | (go_simp; done) | (go_simp; rfl)); intro gb305 hg w10 hbox hb; have n0_ := Aside0.mk (bb_ BK303.out hb); have n1_ := Aside0.mk (bb_ BK304.out hb); have n2_ := Aside0.mk (below_step (hb2_ HB.out GE303.out GE304.out) hb); have n3_ := Aside0.mk (hbox); have n4_ := Aside0.mk ((by rw [hg]; exact (below_size (hb2_ HB.out GE303.out GE304.out)) : w.heap.size ≤ gb305)); have n5_ := Aside0.mk ((by rw [hg]; exact (below_size (hb2_ HB.out GE303.out GE304.out)) : w.heap.size ≤ gb305)); have n6_ := Aside0.mk ((bl_ hg BK303.out : gb303 ≠ gb305)); have n7_ := Aside0.mk ((bg_ hg BK303.out : gb305 ≠ gb303)); have n8_ := Aside0.mk ((bl_ hg BK304.out : gb304 ≠ gb305)); have n9_ := Aside0.mk ((bg_ hg BK304.out : gb305 ≠ gb304)); clear BK303; clear BK304; clear HB; have BK303 := n0_; have BK304 := n1_; have HB := n2_; have BK305 := n3_; have GW305 := n4_; have GE305 := n5_; have NB303_305 := n6_; have NB305_303 := n7_; have NB304_305 := n8_; have NB305_304 := n9_; clear n0_ n1_ n2_ n3_ n4_ n5_ n6_ n7_ n8_ n9_; clear hb hbox hg))
  (try simp only [Act.put, List.setIfInBounds_toArray, List.set_cons_zero, List.set_cons_succ])
  go_cut [45] (fun v45 wc => ∃ (kq : Nat) (x45_6 : Bool), v45 = .bool x45_6 ∧ Aside0 (impl_GateAsk.j0 kq a1 a3 a5 x45_6 a0_0 a0_1 a2_0 a2_1 a4_0 a4_1 l4_2 = some (r1, r2, r3)) ∧ Aside0 (kq ≤ k) ∧ Aside0 (wc.heap[gb303]? = some (.cells #[.int .i64 a0_0, .int .i64 a0_1] 32 (0, 0))) ∧ Aside0 (wc.heap[gb304]? = some (.cells #[.int .i64 a2_0, .int .i64 a2_1] 34 (0, 0))) ∧ Aside0 (wc.heap[gb305]? = some (.cells #[.int .i64 a4_0, .int .i64 a4_1, (.slice A4_2 l4_2.length c4_2)] 38 (0, 0))) ∧ Aside0 (Below w.heap.size w wc))
  case first =>
    have H := HC7.out
    clear HC7
    by_cases c11 : a1 = true
    · subst c11
      have H1 : ((impl_IvalOk.f a0_0 a0_1).bind fun t306 => (if t306 = true then ((impl_DriftOk.f a2_0 a2_1).bind fun t307 => (if t307 = true then ((impl_in.f a3 1 1000000000000).bind fun t308 => (if t308 = true then ((impl_PlanOk.f k a4_0 a4_1 l4_2).bind fun t309 => (if t309 = true then ((impl_isNode.f a5).bind fun t310 => (impl_GateAsk.j0 k true a3 a5 (!t310) a0_0 a0_1 a2_0 a2_1 a4_0 a4_1 l4_2)) else (impl_GateAsk.j0 k true a3 a5 true a0_0 a0_1 a2_0 a2_1 a4_0 a4_1 l4_2))) else (impl_GateAsk.j0 k true a3 a5 true a0_0 a0_1 a2_0 a2_1 a4_0 a4_1 l4_2))) else (impl_GateAsk.j0 k true a3 a5 true a0_0 a0_1 a2_0 a2_1 a4_0 a4_1 l4_2))) else (impl_GateAsk.j0 k true a3 a5 true a0_0 a0_1 a2_0 a2_1 a4_0 a4_1 l4_2))) = some (r1, r2, r3) := by rw [if_pos rfl] at H; exact H
      clear H
      have H := H1
      clear H1
      replace H := Option.bind_eq_some_iff.mp H
      obtain ⟨t306, A120, H⟩ := H
      replace H : (if t306 = true then ((impl_DriftOk.f a2_0 a2_1).bind fun t307 => (if t307 = true then ((impl_in.f a3 1 1000000000000).bind fun t308 => (if t308 = true then ((impl_PlanOk.f k a4_0 a4_1 l4_2).bind fun t309 => (if t309 = true then ((impl_isNode.f a5).bind fun t310 => (impl_GateAsk.j0 k true a3 a5 (!t310) a0_0 a0_1 a2_0 a2_1 a4_0 a4_1 l4_2)) else (impl_GateAsk.j0 k true a3 a5 true a0_0 a0_1 a2_0 a2_1 a4_0 a4_1 l4_2))) else (impl_GateAsk.j0 k true a3 a5 true a0_0 a0_1 a2_0 a2_1 a4_0 a4_1 l4_2))) else (impl_GateAsk.j0 k true a3 a5 true a0_0 a0_1 a2_0 a2_1 a4_0 a4_1 l4_2))) else (impl_GateAsk.j0 k true a3 a5 true a0_0 a0_1 a2_0 a2_1 a4_0 a4_1 l4_2)) = some (r1, r2, r3) := H
      have A12 := Aside0.mk A120
      clear A120
      by_cases c13 : t306 = true
      · subst c13
        have H1 : ((impl_DriftOk.f a2_0 a2_1).bind fun t307 => (if t307 = true then ((impl_in.f a3 1 1000000000000).bind fun t308 => (if t308 = true then ((impl_PlanOk.f k a4_0 a4_1 l4_2).bind fun t309 => (if t309 = true then ((impl_isNode.f a5).bind fun t310 => (impl_GateAsk.j0 k true a3 a5 (!t310) a0_0 a0_1 a2_0 a2_1 a4_0 a4_1 l4_2)) else (impl_GateAsk.j0 k true a3 a5 true a0_0 a0_1 a2_0 a2_1 a4_0 a4_1 l4_2))) else (impl_GateAsk.j0 k true a3 a5 true a0_0 a0_1 a2_0 a2_1 a4_0 a4_1 l4_2))) else (impl_GateAsk.j0 k true a3 a5 true a0_0 a0_1 a2_0 a2_1 a4_0 a4_1 l4_2))) = some (r1, r2, r3) := by rw [if_pos rfl] at H; exact H
        clear H
        have H := H1
        clear H1
        replace H := Option.bind_eq_some_iff.mp H
        obtain ⟨t307, A140, H⟩ := H
        replace H : (if t307 = true then ((impl_in.f a3 1 1000000000000).bind fun t308 => (if t308 = true then ((impl_PlanOk.f k a4_0 a4_1 l4_2).bind fun t309 => (if t309 = true then ((impl_isNode.f a5).bind fun t310 => (impl_GateAsk.j0 k true a3 a5 (!t310) a0_0 a0_1 a2_0 a2_1 a4_0 a4_1 l4_2)) else (impl_GateAsk.j0 k true a3 a5 true a0_0 a0_1 a2_0 a2_1 a4_0 a4_1 l4_2))) else (impl_GateAsk.j0 k true a3 a5 true a0_0 a0_1 a2_0 a2_1 a4_0 a4_1 l4_2))) else (impl_GateAsk.j0 k true a3 a5 true a0_0 a0_1 a2_0 a2_1 a4_0 a4_1 l4_2)) = some (r1, r2, r3) := H
        have A14 := Aside0.mk A140
        clear A140
        by_cases c15 : t307 = true
        · subst c15
          have H1 : ((impl_in.f a3 1 1000000000000).bind fun t308 => (if t308 = true then ((impl_PlanOk.f k a4_0 a4_1 l4_2).bind fun t309 => (if t309 = true then ((impl_isNode.f a5).bind fun t310 => (impl_GateAsk.j0 k true a3 a5 (!t310) a0_0 a0_1 a2_0 a2_1 a4_0 a4_1 l4_2)) else (impl_GateAsk.j0 k true a3 a5 true a0_0 a0_1 a2_0 a2_1 a4_0 a4_1 l4_2))) else (impl_GateAsk.j0 k true a3 a5 true a0_0 a0_1 a2_0 a2_1 a4_0 a4_1 l4_2))) = some (r1, r2, r3) := by rw [if_pos rfl] at H; exact H
          clear H
          have H := H1
          clear H1
          replace H := Option.bind_eq_some_iff.mp H
          obtain ⟨t308, A160, H⟩ := H
          replace H : (if t308 = true then ((impl_PlanOk.f k a4_0 a4_1 l4_2).bind fun t309 => (if t309 = true then ((impl_isNode.f a5).bind fun t310 => (impl_GateAsk.j0 k true a3 a5 (!t310) a0_0 a0_1 a2_0 a2_1 a4_0 a4_1 l4_2)) else (impl_GateAsk.j0 k true a3 a5 true a0_0 a0_1 a2_0 a2_1 a4_0 a4_1 l4_2))) else (impl_GateAsk.j0 k true a3 a5 true a0_0 a0_1 a2_0 a2_1 a4_0 a4_1 l4_2)) = some (r1, r2, r3) := H
          have A16 := Aside0.mk A160
          clear A160
          by_cases c17 : t308 = true
          · subst c17
            have H1 : ((impl_PlanOk.f k a4_0 a4_1 l4_2).bind fun t309 => (if t309 = true then ((impl_isNode.f a5).bind fun t310 => (impl_GateAsk.j0 k true a3 a5 (!t310) a0_0 a0_1 a2_0 a2_1 a4_0 a4_1 l4_2)) else (impl_GateAsk.j0 k true a3 a5 true a0_0 a0_1 a2_0 a2_1 a4_0 a4_1 l4_2))) = some (r1, r2, r3) := by rw [if_pos rfl] at H; exact H
            clear H
            have H := H1
            clear H1
            replace H := Option.bind_eq_some_iff.mp H
            obtain ⟨t309, A180, H⟩ := H
            replace H : (if t309 = true then ((impl_isNode.f a5).bind fun t310 => (impl_GateAsk.j0 k true a3 a5 (!t310) a0_0 a0_1 a2_0 a2_1 a4_0 a4_1 l4_2)) else (impl_GateAsk.j0 k true a3 a5 true a0_0 a0_1 a2_0 a2_1 a4_0 a4_1 l4_2)) = some (r1, r2, r3) := H
            have A18 := Aside0.mk A180
            clear A180
            by_cases c19 : t309 = true
            · subst c19
              have H1 : ((impl_isNode.f a5).bind fun t310 => (impl_GateAsk.j0 k true a3 a5 (!t310) a0_0 a0_1 a2_0 a2_1 a4_0 a4_1 l4_2)) = some (r1, r2, r3) := by rw [if_pos rfl] at H; exact H
              clear H
              have H := H1
              clear H1
              replace H := Option.bind_eq_some_iff.mp H
              obtain ⟨t310, A200, H⟩ := H
              replace H : (impl_GateAsk.j0 k true a3 a5 (!t310) a0_0 a0_1 a2_0 a2_1 a4_0 a4_1 l4_2) = some (r1, r2, r3) := H
              have A20 := Aside0.mk A200
              clear A200
              have H' := Aside0.mk H
              clear H
              have hnb21 := NB303_304.out
              have hnc21 := NB304_303.out
              have hnb22 := NB303_305.out
              have hnc22 := NB305_303.out
              have hcz23_0 := bc_ BK303.out 0 (.int .i64 a0_0) rfl
              have hcz23_1 := bc_ BK303.out 1 (.int .i64 a0_1) rfl
              have hfz23_0 := blk_frozen BK303.out 0
              have hfz23_1 := blk_frozen BK303.out 1
              go_wp2_with (first | (go_at_call 43; (with_reducible refine (impl_IvalOk.calls a0_0 a0_1 true _ A12.out).mono ?_); rintro e w24 ⟨rfl, hb⟩; have n0_ := Aside0.mk (bb_ BK303.out hb); have n1_ := Aside0.mk (bb_ BK304.out hb); have n2_ := Aside0.mk (bb_ BK305.out hb); have n3_ := Aside0.mk (below_step (hb3_ HB.out GE303.out GE304.out GE305.out) hb); clear BK303; clear BK304; clear BK305; clear HB; have BK303 := n0_; have BK304 := n1_; have BK305 := n2_; have HB := n3_; clear n0_ n1_ n2_ n3_; (try clear hb); (try clear hb2); (try clear hk); (try clear hi); have hnb25 := NB304_305.out; have hnc25 := NB305_304.out; have hcz26_0 := bc_ BK304.out 0 (.int .i64 a2_0) rfl; have hcz26_1 := bc_ BK304.out 1 (.int .i64 a2_1) rfl; have hfz26_0 := blk_frozen BK304.out 0; have hfz26_1 := blk_frozen BK304.out 1) | (go_at_call 44; (with_reducible refine (impl_DriftOk.calls a2_0 a2_1 true _ A14.out).mono ?_); rintro e w27 ⟨rfl, hb⟩; have n0_ := Aside0.mk (bb_ BK303.out hb); have n1_ := Aside0.mk (bb_ BK304.out hb); have n2_ := Aside0.mk (bb_ BK305.out hb); have n3_ := Aside0.mk (below_step (hb3_ HB.out GE303.out GE304.out GE305.out) hb); clear BK303; clear BK304; clear BK305; clear HB; have BK303 := n0_; have BK304 := n1_; have BK305 := n2_; have HB := n3_; clear n0_ n1_ n2_ n3_; (try clear hb); (try clear hb2); (try clear hk); (try clear hi)) | (go_at_call 45; (with_reducible refine (impl_in.calls a3 1 1000000000000 true _ A16.out).mono ?_); rintro e w' ⟨rfl, ⟨nd, rfl⟩⟩; have hcz28_0 := bc_ BK305.out 0 (.int .i64 a4_0) rfl; have hcz28_1 := bc_ BK305.out 1 (.int .i64 a4_1) rfl; have hcz28_2 := bc_ BK305.out 2 (.slice A4_2 l4_2.length c4_2) rfl; have hfz28_0 := blk_frozen BK305.out 0; have hfz28_1 := blk_frozen BK305.out 1; have hfz28_2 := blk_frozen BK305.out 2) | (go_at_call 46; (with_reducible refine (impl_PlanOk.calls k a4_0 a4_1 _ _ l4_2 true _ ?side1 ?side2 A18.out).mono ?_); (case side1 => repeat (first | exact (Kd.C_below HR4_2.out (hb3_ HB.out GE303.out GE304.out GE305.out)) | (with_reducible refine Kd.C_alloc ?_ _) | (with_reducible refine Kd.C_drewN ?_ _) | (with_reducible refine Kd.C_drew ?_))); (case side2 => exact HC4_2.out); rintro e w29 ⟨rfl, hb⟩; have n0_ := Aside0.mk (bb_ BK303.out hb); have n1_ := Aside0.mk (bb_ BK304.out hb); have n2_ := Aside0.mk (bb_ BK305.out hb); have n3_ := Aside0.mk (below_step (hb3_ HB.out GE303.out GE304.out GE305.out) hb); clear BK303; clear BK304; clear BK305; clear HB; have BK303 := n0_; have BK304 := n1_; have BK305 := n2_; have HB := n3_; clear n0_ n1_ n2_ n3_; (try clear hb); (try clear hb2); (try clear hk); (try clear hi)) | (go_at_call 47; (with_reducible refine (impl_isNode.calls a5 t310 _ A20.out).mono ?_); rintro e w' ⟨rfl, ⟨nd, rfl⟩⟩))
              go_meet
              case rel => exact ⟨_, (!t310), (by first | rfl | (simp; done) | (simp [*]; done)), H', ⟨by first | omega | exact Nat.le_refl _⟩, ⟨bk_ BK303.out⟩, ⟨bk_ BK304.out⟩, ⟨bk_ BK305.out⟩, ⟨hb3_ HB.out GE303.out GE304.out GE305.out⟩⟩
            · replace c19 := Bool.eq_false_iff.mpr c19
              subst c19
              have H1 : (impl_GateAsk.j0 k true a3 a5 true a0_0 a0_1 a2_0 a2_1 a4_0 a4_1 l4_2) = some (r1, r2, r3) := by rw [if_neg (show ¬ (false = true) by decide)] at H; exact H
              clear H
              have H := H1
              clear H1
              have H' := Aside0.mk H
              clear H
              have hnb30 := NB303_304.out
              have hnc30 := NB304_303.out
              have hnb31 := NB303_305.out
              have hnc31 := NB305_303.out
              have hcz32_0 := bc_ BK303.out 0 (.int .i64 a0_0) rfl
              have hcz32_1 := bc_ BK303.out 1 (.int .i64 a0_1) rfl
              have hfz32_0 := blk_frozen BK303.out 0
              have hfz32_1 := blk_frozen BK303.out 1
              go_wp2_with (first | (go_at_call 43; (with_reducible refine (impl_IvalOk.calls a0_0 a0_1 true _ A12.out).mono ?_); rintro e w33 ⟨rfl, hb⟩; have n0_ := Aside0.mk (bb_ BK303.out hb); have n1_ := Aside0.mk (bb_ BK304.out hb); have n2_ := Aside0.mk (bb_ BK305.out hb); have n3_ := Aside0.mk (below_step (hb3_ HB.out GE303.out GE304.out GE305.out) hb); clear BK303; clear BK304; clear BK305; clear HB; have BK303 := n0_; have BK304 := n1_; have BK305 := n2_; have HB := n3_; clear n0_ n1_ n2_ n3_; (try clear hb); (try clear hb2); (try clear hk); (try clear hi); have hnb34 := NB304_305.out; have hnc34 := NB305_304.out; have hcz35_0 := bc_ BK304.out 0 (.int .i64 a2_0) rfl; have hcz35_1 := bc_ BK304.out 1 (.int .i64 a2_1) rfl; have hfz35_0 := blk_frozen BK304.out 0; have hfz35_1 := blk_frozen BK304.out 1) | (go_at_call 44; (with_reducible refine (impl_DriftOk.calls a2_0 a2_1 true _ A14.out).mono ?_); rintro e w36 ⟨rfl, hb⟩; have n0_ := Aside0.mk (bb_ BK303.out hb); have n1_ := Aside0.mk (bb_ BK304.out hb); have n2_ := Aside0.mk (bb_ BK305.out hb); have n3_ := Aside0.mk (below_step (hb3_ HB.out GE303.out GE304.out GE305.out) hb); clear BK303; clear BK304; clear BK305; clear HB; have BK303 := n0_; have BK304 := n1_; have BK305 := n2_; have HB := n3_; clear n0_ n1_ n2_ n3_; (try clear hb); (try clear hb2); (try clear hk); (try clear hi)) | (go_at_call 45; (with_reducible refine (impl_in.calls a3 1 1000000000000 true _ A16.out).mono ?_); rintro e w' ⟨rfl, ⟨nd, rfl⟩⟩; have hcz37_0 := bc_ BK305.out 0 (.int .i64 a4_0) rfl; have hcz37_1 := bc_ BK305.out 1 (.int .i64 a4_1) rfl; have hcz37_2 := bc_ BK305.out 2 (.slice A4_2 l4_2.length c4_2) rfl; have hfz37_0 := blk_frozen BK305.out 0; have hfz37_1 := blk_frozen BK305.out 1; have hfz37_2 := blk_frozen BK305.out 2) | (go_at_call 46; (with_reducible refine (impl_PlanOk.calls k a4_0 a4_1 _ _ l4_2 false _ ?side1 ?side2 A18.out).mono ?_); (case side1 => repeat (first | exact (Kd.C_below HR4_2.out (hb3_ HB.out GE303.out GE304.out GE305.out)) | (with_reducible refine Kd.C_alloc ?_ _) | (with_reducible refine Kd.C_drewN ?_ _) | (with_reducible refine Kd.C_drew ?_))); (case side2 => exact HC4_2.out); rintro e w38 ⟨rfl, hb⟩; have n0_ := Aside0.mk (bb_ BK303.out hb); have n1_ := Aside0.mk (bb_ BK304.out hb); have n2_ := Aside0.mk (bb_ BK305.out hb); have n3_ := Aside0.mk (below_step (hb3_ HB.out GE303.out GE304.out GE305.out) hb); clear BK303; clear BK304; clear BK305; clear HB; have BK303 := n0_; have BK304 := n1_; have BK305 := n2_; have HB := n3_; clear n0_ n1_ n2_ n3_; (try clear hb); (try clear hb2); (try clear hk); (try clear hi)))
              go_meet
              case rel => exact ⟨_, (true), (by first | rfl | (simp; done) | (simp [*]; done)), H', ⟨by first | omega | exact Nat.le_refl _⟩, ⟨bk_ BK303.out⟩, ⟨bk_ BK304.out⟩, ⟨bk_ BK305.out⟩, ⟨hb3_ HB.out GE303.out GE304.out GE305.out⟩⟩
          · replace c17 := Bool.eq_false_iff.mpr c17
            subst c17
            have H1 : (impl_GateAsk.j0 k true a3 a5 true a0_0 a0_1 a2_0 a2_1 a4_0 a4_1 l4_2) = some (r1, r2, r3) := by rw [if_neg (show ¬ (false = true) by decide)] at H; exact H
            clear H
            have H := H1
            clear H1
            have H' := Aside0.mk H
            clear H
            have hnb39 := NB303_304.out
            have hnc39 := NB304_303.out
            have hnb40 := NB303_305.out
            have hnc40 := NB305_303.out
            have hcz41_0 := bc_ BK303.out 0 (.int .i64 a0_0) rfl
            have hcz41_1 := bc_ BK303.out 1 (.int .i64 a0_1) rfl
            have hfz41_0 := blk_frozen BK303.out 0
            have hfz41_1 := blk_frozen BK303.out 1
            go_wp2_with (first | (go_at_call 43; (with_reducible refine (impl_IvalOk.calls a0_0 a0_1 true _ A12.out).mono ?_); rintro e w42 ⟨rfl, hb⟩; have n0_ := Aside0.mk (bb_ BK303.out hb); have n1_ := Aside0.mk (bb_ BK304.out hb); have n2_ := Aside0.mk (bb_ BK305.out hb); have n3_ := Aside0.mk (below_step (hb3_ HB.out GE303.out GE304.out GE305.out) hb); clear BK303; clear BK304; clear BK305; clear HB; have BK303 := n0_; have BK304 := n1_; have BK305 := n2_; have HB := n3_; clear n0_ n1_ n2_ n3_; (try clear hb); (try clear hb2); (try clear hk); (try clear hi); have hnb43 := NB304_305.out; have hnc43 := NB305_304.out; have hcz44_0 := bc_ BK304.out 0 (.int .i64 a2_0) rfl; have hcz44_1 := bc_ BK304.out 1 (.int .i64 a2_1) rfl; have hfz44_0 := blk_frozen BK304.out 0; have hfz44_1 := blk_frozen BK304.out 1) | (go_at_call 44; (with_reducible refine (impl_DriftOk.calls a2_0 a2_1 true _ A14.out).mono ?_); rintro e w45 ⟨rfl, hb⟩; have n0_ := Aside0.mk (bb_ BK303.out hb); have n1_ := Aside0.mk (bb_ BK304.out hb); have n2_ := Aside0.mk (bb_ BK305.out hb); have n3_ := Aside0.mk (below_step (hb3_ HB.out GE303.out GE304.out GE305.out) hb); clear BK303; clear BK304; clear BK305; clear HB; have BK303 := n0_; have BK304 := n1_; have BK305 := n2_; have HB := n3_; clear n0_ n1_ n2_ n3_; (try clear hb); (try clear hb2); (try clear hk); (try clear hi)) | (go_at_call 45; (with_reducible refine (impl_in.calls a3 1 1000000000000 false _ A16.out).mono ?_); rintro e w' ⟨rfl, ⟨nd, rfl⟩⟩))
            go_meet
            case rel => exact ⟨_, (true), (by first | rfl | (simp; done) | (simp [*]; done)), H', ⟨by first | omega | exact Nat.le_refl _⟩, ⟨bk_ BK303.out⟩, ⟨bk_ BK304.out⟩, ⟨bk_ BK305.out⟩, ⟨hb3_ HB.out GE303.out GE304.out GE305.out⟩⟩
        · replace c15 := Bool.eq_false_iff.mpr c15
          subst c15
          have H1 : (impl_GateAsk.j0 k true a3 a5 true a0_0 a0_1 a2_0 a2_1 a4_0 a4_1 l4_2) = some (r1, r2, r3) := by rw [if_neg (show ¬ (false = true) by decide)] at H; exact H
          clear H
          have H := H1
          clear H1
          have H' := Aside0.mk H
          clear H
          have hnb46 := NB303_304.out
          have hnc46 := NB304_303.out
          have hnb47 := NB303_305.out
          have hnc47 := NB305_303.out
          have hcz48_0 := bc_ BK303.out 0 (.int .i64 a0_0) rfl
          have hcz48_1 := bc_ BK303.out 1 (.int .i64 a0_1) rfl
          have hfz48_0 := blk_frozen BK303.out 0
          have hfz48_1 := blk_frozen BK303.out 1
          go_wp2_with (first | (go_at_call 43; (with_reducible refine (impl_IvalOk.calls a0_0 a0_1 true _ A12.out).mono ?_); rintro e w49 ⟨rfl, hb⟩; have n0_ := Aside0.mk (bb_ BK303.out hb); have n1_ := Aside0.mk (bb_ BK304.out hb); have n2_ := Aside0.mk (bb_ BK305.out hb); have n3_ := Aside0.mk (below_step (hb3_ HB.out GE303.out GE304.out GE305.out) hb); clear BK303; clear BK304; clear BK305; clear HB; have BK303 := n0_; have BK304 := n1_; have BK305 := n2_; have HB := n3_; clear n0_ n1_ n2_ n3_; (try clear hb); (try clear hb2); (try clear hk); (try clear hi); have hnb50 := NB304_305.out; have hnc50 := NB305_304.out; have hcz51_0 := bc_ BK304.out 0 (.int .i64 a2_0) rfl; have hcz51_1 := bc_ BK304.out 1 (.int .i64 a2_1) rfl; have hfz51_0 := blk_frozen BK304.out 0; have hfz51_1 := blk_frozen BK304.out 1) | (go_at_call 44; (with_reducible refine (impl_DriftOk.calls a2_0 a2_1 false _ A14.out).mono ?_); rintro e w52 ⟨rfl, hb⟩; have n0_ := Aside0.mk (bb_ BK303.out hb); have n1_ := Aside0.mk (bb_ BK304.out hb); have n2_ := Aside0.mk (bb_ BK305.out hb); have n3_ := Aside0.mk (below_step (hb3_ HB.out GE303.out GE304.out GE305.out) hb); clear BK303; clear BK304; clear BK305; clear HB; have BK303 := n0_; have BK304 := n1_; have BK305 := n2_; have HB := n3_; clear n0_ n1_ n2_ n3_; (try clear hb); (try clear hb2); (try clear hk); (try clear hi)))
          go_meet
          case rel => exact ⟨_, (true), (by first | rfl | (simp; done) | (simp [*]; done)), H', ⟨by first | omega | exact Nat.le_refl _⟩, ⟨bk_ BK303.out⟩, ⟨bk_ BK304.out⟩, ⟨bk_ BK305.out⟩, ⟨hb3_ HB.out GE303.out GE304.out GE305.out⟩⟩
      · replace c13 := Bool.eq_false_iff.mpr c13
        subst c13
        have H1 : (impl_GateAsk.j0 k true a3 a5 true a0_0 a0_1 a2_0 a2_1 a4_0 a4_1 l4_2) = some (r1, r2, r3) := by rw [if_neg (show ¬ (false = true) by decide)] at H; exact H
        clear H
        have H := H1
        clear H1
        have H' := Aside0.mk H
        clear H
        have hnb53 := NB303_304.out
        have hnc53 := NB304_303.out
        have hnb54 := NB303_305.out
        have hnc54 := NB305_303.out
        have hcz55_0 := bc_ BK303.out 0 (.int .i64 a0_0) rfl
        have hcz55_1 := bc_ BK303.out 1 (.int .i64 a0_1) rfl
        have hfz55_0 := blk_frozen BK303.out 0
        have hfz55_1 := blk_frozen BK303.out 1
        go_wp2_with (first | (go_at_call 43; (with_reducible refine (impl_IvalOk.calls a0_0 a0_1 false _ A12.out).mono ?_); rintro e w56 ⟨rfl, hb⟩; have n0_ := Aside0.mk (bb_ BK303.out hb); have n1_ := Aside0.mk (bb_ BK304.out hb); have n2_ := Aside0.mk (bb_ BK305.out hb); have n3_ := Aside0.mk (below_step (hb3_ HB.out GE303.out GE304.out GE305.out) hb); clear BK303; clear BK304; clear BK305; clear HB; have BK303 := n0_; have BK304 := n1_; have BK305 := n2_; have HB := n3_; clear n0_ n1_ n2_ n3_; (try clear hb); (try clear hb2); (try clear hk); (try clear hi)))
        go_meet
        case rel => exact ⟨_, (true), (by first | rfl | (simp; done) | (simp [*]; done)), H', ⟨by first | omega | exact Nat.le_refl _⟩, ⟨bk_ BK303.out⟩, ⟨bk_ BK304.out⟩, ⟨bk_ BK305.out⟩, ⟨hb3_ HB.out GE303.out GE304.out GE305.out⟩⟩
    · replace c11 := Bool.eq_false_iff.mpr c11
      subst c11
      have H1 : ((impl_DriftOk.f a2_0 a2_1).bind fun t311 => (if t311 = true then ((impl_in.f a3 1 1000000000000).bind fun t312 => (if t312 = true then ((impl_PlanOk.f k a4_0 a4_1 l4_2).bind fun t313 => (if t313 = true then ((impl_isNode.f a5).bind fun t314 => (impl_GateAsk.j0 k false a3 a5 (!t314) a0_0 a0_1 a2_0 a2_1 a4_0 a4_1 l4_2)) else (impl_GateAsk.j0 k false a3 a5 true a0_0 a0_1 a2_0 a2_1 a4_0 a4_1 l4_2))) else (impl_GateAsk.j0 k false a3 a5 true a0_0 a0_1 a2_0 a2_1 a4_0 a4_1 l4_2))) else (impl_GateAsk.j0 k false a3 a5 true a0_0 a0_1 a2_0 a2_1 a4_0 a4_1 l4_2))) = some (r1, r2, r3) := by rw [if_neg (show ¬ (false = true) by decide)] at H; exact H
      clear H
      have H := H1
      clear H1
      replace H := Option.bind_eq_some_iff.mp H
      obtain ⟨t311, A570, H⟩ := H
      replace H : (if t311 = true then ((impl_in.f a3 1 1000000000000).bind fun t312 => (if t312 = true then ((impl_PlanOk.f k a4_0 a4_1 l4_2).bind fun t313 => (if t313 = true then ((impl_isNode.f a5).bind fun t314 => (impl_GateAsk.j0 k false a3 a5 (!t314) a0_0 a0_1 a2_0 a2_1 a4_0 a4_1 l4_2)) else (impl_GateAsk.j0 k false a3 a5 true a0_0 a0_1 a2_0 a2_1 a4_0 a4_1 l4_2))) else (impl_GateAsk.j0 k false a3 a5 true a0_0 a0_1 a2_0 a2_1 a4_0 a4_1 l4_2))) else (impl_GateAsk.j0 k false a3 a5 true a0_0 a0_1 a2_0 a2_1 a4_0 a4_1 l4_2)) = some (r1, r2, r3) := H
      have A57 := Aside0.mk A570
      clear A570
      by_cases c58 : t311 = true
      · subst c58
        have H1 : ((impl_in.f a3 1 1000000000000).bind fun t312 => (if t312 = true then ((impl_PlanOk.f k a4_0 a4_1 l4_2).bind fun t313 => (if t313 = true then ((impl_isNode.f a5).bind fun t314 => (impl_GateAsk.j0 k false a3 a5 (!t314) a0_0 a0_1 a2_0 a2_1 a4_0 a4_1 l4_2)) else (impl_GateAsk.j0 k false a3 a5 true a0_0 a0_1 a2_0 a2_1 a4_0 a4_1 l4_2))) else (impl_GateAsk.j0 k false a3 a5 true a0_0 a0_1 a2_0 a2_1 a4_0 a4_1 l4_2))) = some (r1, r2, r3) := by rw [if_pos rfl] at H; exact H
        clear H
        have H := H1
        clear H1
        replace H := Option.bind_eq_some_iff.mp H
        obtain ⟨t312, A590, H⟩ := H
        replace H : (if t312 = true then ((impl_PlanOk.f k a4_0 a4_1 l4_2).bind fun t313 => (if t313 = true then ((impl_isNode.f a5).bind fun t314 => (impl_GateAsk.j0 k false a3 a5 (!t314) a0_0 a0_1 a2_0 a2_1 a4_0 a4_1 l4_2)) else (impl_GateAsk.j0 k false a3 a5 true a0_0 a0_1 a2_0 a2_1 a4_0 a4_1 l4_2))) else (impl_GateAsk.j0 k false a3 a5 true a0_0 a0_1 a2_0 a2_1 a4_0 a4_1 l4_2)) = some (r1, r2, r3) := H
        have A59 := Aside0.mk A590
        clear A590
        by_cases c60 : t312 = true
        · subst c60
          have H1 : ((impl_PlanOk.f k a4_0 a4_1 l4_2).bind fun t313 => (if t313 = true then ((impl_isNode.f a5).bind fun t314 => (impl_GateAsk.j0 k false a3 a5 (!t314) a0_0 a0_1 a2_0 a2_1 a4_0 a4_1 l4_2)) else (impl_GateAsk.j0 k false a3 a5 true a0_0 a0_1 a2_0 a2_1 a4_0 a4_1 l4_2))) = some (r1, r2, r3) := by rw [if_pos rfl] at H; exact H
          clear H
          have H := H1
          clear H1
          replace H := Option.bind_eq_some_iff.mp H
          obtain ⟨t313, A610, H⟩ := H
          replace H : (if t313 = true then ((impl_isNode.f a5).bind fun t314 => (impl_GateAsk.j0 k false a3 a5 (!t314) a0_0 a0_1 a2_0 a2_1 a4_0 a4_1 l4_2)) else (impl_GateAsk.j0 k false a3 a5 true a0_0 a0_1 a2_0 a2_1 a4_0 a4_1 l4_2)) = some (r1, r2, r3) := H
          have A61 := Aside0.mk A610
          clear A610
          by_cases c62 : t313 = true
          · subst c62
            have H1 : ((impl_isNode.f a5).bind fun t314 => (impl_GateAsk.j0 k false a3 a5 (!t314) a0_0 a0_1 a2_0 a2_1 a4_0 a4_1 l4_2)) = some (r1, r2, r3) := by rw [if_pos rfl] at H; exact H
            clear H
            have H := H1
            clear H1
            replace H := Option.bind_eq_some_iff.mp H
            obtain ⟨t314, A630, H⟩ := H
            replace H : (impl_GateAsk.j0 k false a3 a5 (!t314) a0_0 a0_1 a2_0 a2_1 a4_0 a4_1 l4_2) = some (r1, r2, r3) := H
            have A63 := Aside0.mk A630
            clear A630
            have H' := Aside0.mk H
            clear H
            have hnb64 := NB304_303.out
            have hnc64 := NB303_304.out
            have hnb65 := NB304_305.out
            have hnc65 := NB305_304.out
            have hcz66_0 := bc_ BK304.out 0 (.int .i64 a2_0) rfl
            have hcz66_1 := bc_ BK304.out 1 (.int .i64 a2_1) rfl
            have hfz66_0 := blk_frozen BK304.out 0
            have hfz66_1 := blk_frozen BK304.out 1
            go_wp2_with (first | (go_at_call 44; (with_reducible refine (impl_DriftOk.calls a2_0 a2_1 true _ A57.out).mono ?_); rintro e w67 ⟨rfl, hb⟩; have n0_ := Aside0.mk (bb_ BK303.out hb); have n1_ := Aside0.mk (bb_ BK304.out hb); have n2_ := Aside0.mk (bb_ BK305.out hb); have n3_ := Aside0.mk (below_step (hb3_ HB.out GE303.out GE304.out GE305.out) hb); clear BK303; clear BK304; clear BK305; clear HB; have BK303 := n0_; have BK304 := n1_; have BK305 := n2_; have HB := n3_; clear n0_ n1_ n2_ n3_; (try clear hb); (try clear hb2); (try clear hk); (try clear hi)) | (go_at_call 45; (with_reducible refine (impl_in.calls a3 1 1000000000000 true _ A59.out).mono ?_); rintro e w' ⟨rfl, ⟨nd, rfl⟩⟩; have hnb68 := NB305_303.out; have hnc68 := NB303_305.out; have hcz69_0 := bc_ BK305.out 0 (.int .i64 a4_0) rfl; have hcz69_1 := bc_ BK305.out 1 (.int .i64 a4_1) rfl; have hcz69_2 := bc_ BK305.out 2 (.slice A4_2 l4_2.length c4_2) rfl; have hfz69_0 := blk_frozen BK305.out 0; have hfz69_1 := blk_frozen BK305.out 1; have hfz69_2 := blk_frozen BK305.out 2) | (go_at_call 46; (with_reducible refine (impl_PlanOk.calls k a4_0 a4_1 _ _ l4_2 true _ ?side1 ?side2 A61.out).mono ?_); (case side1 => repeat (first | exact (Kd.C_below HR4_2.out (hb3_ HB.out GE303.out GE304.out GE305.out)) | (with_reducible refine Kd.C_alloc ?_ _) | (with_reducible refine Kd.C_drewN ?_ _) | (with_reducible refine Kd.C_drew ?_))); (case side2 => exact HC4_2.out); rintro e w70 ⟨rfl, hb⟩; have n0_ := Aside0.mk (bb_ BK303.out hb); have n1_ := Aside0.mk (bb_ BK304.out hb); have n2_ := Aside0.mk (bb_ BK305.out hb); have n3_ := Aside0.mk (below_step (hb3_ HB.out GE303.out GE304.out GE305.out) hb); clear BK303; clear BK304; clear BK305; clear HB; have BK303 := n0_; have BK304 := n1_; have BK305 := n2_; have HB := n3_; clear n0_ n1_ n2_ n3_; (try clear hb); (try clear hb2); (try clear hk); (try clear hi)) | (go_at_call 47; (with_reducible refine (impl_isNode.calls a5 t314 _ A63.out).mono ?_); rintro e w' ⟨rfl, ⟨nd, rfl⟩⟩))
            go_meet
            case rel => exact ⟨_, (!t314), (by first | rfl | (simp; done) | (simp [*]; done)), H', ⟨by first | omega | exact Nat.le_refl _⟩, ⟨bk_ BK303.out⟩, ⟨bk_ BK304.out⟩, ⟨bk_ BK305.out⟩, ⟨hb3_ HB.out GE303.out GE304.out GE305.out⟩⟩
          · replace c62 := Bool.eq_false_iff.mpr c62
            subst c62
            have H1 : (impl_GateAsk.j0 k false a3 a5 true a0_0 a0_1 a2_0 a2_1 a4_0 a4_1 l4_2) = some (r1, r2, r3) := by rw [if_neg (show ¬ (false = true) by decide)] at H; exact H
            clear H
            have H := H1
            clear H1
            have H' := Aside0.mk H
            clear H
            have hnb71 := NB304_303.out
            have hnc71 := NB303_304.out
            have hnb72 := NB304_305.out
            have hnc72 := NB305_304.out
            have hcz73_0 := bc_ BK304.out 0 (.int .i64 a2_0) rfl
            have hcz73_1 := bc_ BK304.out 1 (.int .i64 a2_1) rfl
            have hfz73_0 := blk_frozen BK304.out 0
            have hfz73_1 := blk_frozen BK304.out 1
            go_wp2_with (first | (go_at_call 44; (with_reducible refine (impl_DriftOk.calls a2_0 a2_1 true _ A57.out).mono ?_); rintro e w74 ⟨rfl, hb⟩; have n0_ := Aside0.mk (bb_ BK303.out hb); have n1_ := Aside0.mk (bb_ BK304.out hb); have n2_ := Aside0.mk (bb_ BK305.out hb); have n3_ := Aside0.mk (below_step (hb3_ HB.out GE303.out GE304.out GE305.out) hb); clear BK303; clear BK304; clear BK305; clear HB; have BK303 := n0_; have BK304 := n1_; have BK305 := n2_; have HB := n3_; clear n0_ n1_ n2_ n3_; (try clear hb); (try clear hb2); (try clear hk); (try clear hi)) | (go_at_call 45; (with_reducible refine (impl_in.calls a3 1 1000000000000 true _ A59.out).mono ?_); rintro e w' ⟨rfl, ⟨nd, rfl⟩⟩; have hnb75 := NB305_303.out; have hnc75 := NB303_305.out; have hcz76_0 := bc_ BK305.out 0 (.int .i64 a4_0) rfl; have hcz76_1 := bc_ BK305.out 1 (.int .i64 a4_1) rfl; have hcz76_2 := bc_ BK305.out 2 (.slice A4_2 l4_2.length c4_2) rfl; have hfz76_0 := blk_frozen BK305.out 0; have hfz76_1 := blk_frozen BK305.out 1; have hfz76_2 := blk_frozen BK305.out 2) | (go_at_call 46; (with_reducible refine (impl_PlanOk.calls k a4_0 a4_1 _ _ l4_2 false _ ?side1 ?side2 A61.out).mono ?_); (case side1 => repeat (first | exact (Kd.C_below HR4_2.out (hb3_ HB.out GE303.out GE304.out GE305.out)) | (with_reducible refine Kd.C_alloc ?_ _) | (with_reducible refine Kd.C_drewN ?_ _) | (with_reducible refine Kd.C_drew ?_))); (case side2 => exact HC4_2.out); rintro e w77 ⟨rfl, hb⟩; have n0_ := Aside0.mk (bb_ BK303.out hb); have n1_ := Aside0.mk (bb_ BK304.out hb); have n2_ := Aside0.mk (bb_ BK305.out hb); have n3_ := Aside0.mk (below_step (hb3_ HB.out GE303.out GE304.out GE305.out) hb); clear BK303; clear BK304; clear BK305; clear HB; have BK303 := n0_; have BK304 := n1_; have BK305 := n2_; have HB := n3_; clear n0_ n1_ n2_ n3_; (try clear hb); (try clear hb2); (try clear hk); (try clear hi)))
            go_meet
            case rel => exact ⟨_, (true), (by first | rfl | (simp; done) | (simp [*]; done)), H', ⟨by first | omega | exact Nat.le_refl _⟩, ⟨bk_ BK303.out⟩, ⟨bk_ BK304.out⟩, ⟨bk_ BK305.out⟩, ⟨hb3_ HB.out GE303.out GE304.out GE305.out⟩⟩
        · replace c60 := Bool.eq_false_iff.mpr c60
          subst c60
          have H1 : (impl_GateAsk.j0 k false a3 a5 true a0_0 a0_1 a2_0 a2_1 a4_0 a4_1 l4_2) = some (r1, r2, r3) := by rw [if_neg (show ¬ (false = true) by decide)] at H; exact H
          clear H
          have H := H1
          clear H1
          have H' := Aside0.mk H
          clear H
          have hnb78 := NB304_303.out
          have hnc78 := NB303_304.out
          have hnb79 := NB304_305.out
          have hnc79 := NB305_304.out
          have hcz80_0 := bc_ BK304.out 0 (.int .i64 a2_0) rfl
          have hcz80_1 := bc_ BK304.out 1 (.int .i64 a2_1) rfl
          have hfz80_0 := blk_frozen BK304.out 0
          have hfz80_1 := blk_frozen BK304.out 1
          go_wp2_with (first | (go_at_call 44; (with_reducible refine (impl_DriftOk.calls a2_0 a2_1 true _ A57.out).mono ?_); rintro e w81 ⟨rfl, hb⟩; have n0_ := Aside0.mk (bb_ BK303.out hb); have n1_ := Aside0.mk (bb_ BK304.out hb); have n2_ := Aside0.mk (bb_ BK305.out hb); have n3_ := Aside0.mk (below_step (hb3_ HB.out GE303.out GE304.out GE305.out) hb); clear BK303; clear BK304; clear BK305; clear HB; have BK303 := n0_; have BK304 := n1_; have BK305 := n2_; have HB := n3_; clear n0_ n1_ n2_ n3_; (try clear hb); (try clear hb2); (try clear hk); (try clear hi)) | (go_at_call 45; (with_reducible refine (impl_in.calls a3 1 1000000000000 false _ A59.out).mono ?_); rintro e w' ⟨rfl, ⟨nd, rfl⟩⟩))
          go_meet
          case rel => exact ⟨_, (true), (by first | rfl | (simp; done) | (simp [*]; done)), H', ⟨by first | omega | exact Nat.le_refl _⟩, ⟨bk_ BK303.out⟩, ⟨bk_ BK304.out⟩, ⟨bk_ BK305.out⟩, ⟨hb3_ HB.out GE303.out GE304.out GE305.out⟩⟩
      · replace c58 := Bool.eq_false_iff.mpr c58
        subst c58
        have H1 : (impl_GateAsk.j0 k false a3 a5 true a0_0 a0_1 a2_0 a2_1 a4_0 a4_1 l4_2) = some (r1, r2, r3) := by rw [if_neg (show ¬ (false = true) by decide)] at H; exact H
        clear H
        have H := H1
        clear H1
        have H' := Aside0.mk H
        clear H
        have hnb82 := NB304_303.out
        have hnc82 := NB303_304.out
        have hnb83 := NB304_305.out
        have hnc83 := NB305_304.out
        have hcz84_0 := bc_ BK304.out 0 (.int .i64 a2_0) rfl
        have hcz84_1 := bc_ BK304.out 1 (.int .i64 a2_1) rfl
        have hfz84_0 := blk_frozen BK304.out 0
        have hfz84_1 := blk_frozen BK304.out 1
        go_wp2_with (first | (go_at_call 44; (with_reducible refine (impl_DriftOk.calls a2_0 a2_1 false _ A57.out).mono ?_); rintro e w85 ⟨rfl, hb⟩; have n0_ := Aside0.mk (bb_ BK303.out hb); have n1_ := Aside0.mk (bb_ BK304.out hb); have n2_ := Aside0.mk (bb_ BK305.out hb); have n3_ := Aside0.mk (below_step (hb3_ HB.out GE303.out GE304.out GE305.out) hb); clear BK303; clear BK304; clear BK305; clear HB; have BK303 := n0_; have BK304 := n1_; have BK305 := n2_; have HB := n3_; clear n0_ n1_ n2_ n3_; (try clear hb); (try clear hb2); (try clear hk); (try clear hi)))
        go_meet
        case rel => exact ⟨_, (true), (by first | rfl | (simp; done) | (simp [*]; done)), H', ⟨by first | omega | exact Nat.le_refl _⟩, ⟨bk_ BK303.out⟩, ⟨bk_ BK304.out⟩, ⟨bk_ BK305.out⟩, ⟨hb3_ HB.out GE303.out GE304.out GE305.out⟩⟩
  case rest =>
    clear HC7
    try clear c1
    try clear c2
    try clear p2
    try clear c3
    try clear c4
    try clear c5
    try clear c6
    try clear c7
    try clear c8
    try clear c11
    try clear c13
    try clear c14
    try clear c15
    try clear c17
    try clear c19
    try clear c21
    try clear c22
    try clear c25
    try clear c30
    try clear c31
    try clear c34
    try clear c39
    try clear c40
    try clear c43
    try clear c46
    try clear c47
    try clear c50
    try clear c53
    try clear c54
    try clear c58
    try clear c60
    try clear c62
    try clear c64
    try clear c65
    try clear c68
    try clear c71
    try clear c72
    try clear c75
    try clear c78
    try clear c79
    try clear c82
    try clear c83
    try clear hcz23_0
    try clear hcz23_1
    try clear hcz26_0
    try clear hcz26_1
    try clear hcz28_0
    try clear hcz28_1
    try clear hcz28_2
    try clear hcz32_0
    try clear hcz32_1
    try clear hcz35_0
    try clear hcz35_1
    try clear hcz37_0
    try clear hcz37_1
    try clear hcz37_2
    try clear hcz41_0
    try clear hcz41_1
    try clear hcz44_0
    try clear hcz44_1
    try clear hcz48_0
    try clear hcz48_1
    try clear hcz51_0
    try clear hcz51_1
    try clear hcz55_0
    try clear hcz55_1
    try clear hcz66_0
    try clear hcz66_1
    try clear hcz69_0
    try clear hcz69_1
    try clear hcz69_2
    try clear hcz73_0
    try clear hcz73_1
    try clear hcz76_0
    try clear hcz76_1
    try clear hcz76_2
    try clear hcz80_0
    try clear hcz80_1
    try clear hcz84_0
    try clear hcz84_1
    try clear hfz23_0
    try clear hfz23_1
    try clear hfz26_0
    try clear hfz26_1
    try clear hfz28_0
    try clear hfz28_1
    try clear hfz28_2
    try clear hfz32_0
    try clear hfz32_1
    try clear hfz35_0
    try clear hfz35_1
    try clear hfz37_0
    try clear hfz37_1
    try clear hfz37_2
    try clear hfz41_0
    try clear hfz41_1
    try clear hfz44_0
    try clear hfz44_1
    try clear hfz48_0
    try clear hfz48_1
    try clear hfz51_0
    try clear hfz51_1
    try clear hfz55_0
    try clear hfz55_1
    try clear hfz66_0
    try clear hfz66_1
    try clear hfz69_0
    try clear hfz69_1
    try clear hfz69_2
    try clear hfz73_0
    try clear hfz73_1
    try clear hfz76_0
    try clear hfz76_1
    try clear hfz76_2
    try clear hfz80_0
    try clear hfz80_1
    try clear hfz84_0
    try clear hfz84_1
    obtain ⟨kq, x45_6, rfl, HA, HJ6, BK303, BK304, BK305, HB⟩ := hcut
    cases kq with
    | zero => exact absurd HA.out (by simp [impl_GateAsk.j0])
    | succ kj6 =>
      have H := HA.out
      clear HA
      simp only [impl_GateAsk.j0] at H
      by_cases c86 : x45_6 = true
      · subst c86
        have H1 : (some (0, 0, 1)) = some (r1, r2, r3) := by rw [if_pos rfl] at H; exact H
        clear H
        have H := H1
        clear H1
        simp only [Option.some.injEq, Prod.mk.injEq] at H
        obtain ⟨rfl, rfl, rfl⟩ := H
        go_wp2
        go_ret3
        exact ⟨er_, hb3_ HB.out GE303.out GE304.out GE305.out⟩
      · replace c86 := Bool.eq_false_iff.mpr c86
        subst c86
        have H1 : ((impl_GateSpan.f a0_0 a0_1 a2_0 a2_1 a3).bind fun bt315 => (if a1 = true then (impl_GateAsk.j1 kj6 a5 (!bt315.2.2) a4_0 a4_1 l4_2 bt315.1 bt315.2.1) else (impl_GateAsk.j1 kj6 a5 true a4_0 a4_1 l4_2 bt315.1 bt315.2.1))) = some (r1, r2, r3) := by rw [if_neg (show ¬ (false = true) by decide)] at H; exact H
        clear H
        have H := H1
        clear H1
        replace H := Option.bind_eq_some_iff.mp H
        obtain ⟨⟨t315, t316, t317⟩, A870, H⟩ := H
        replace H : (if a1 = true then (impl_GateAsk.j1 kj6 a5 (!t317) a4_0 a4_1 l4_2 t315 t316) else (impl_GateAsk.j1 kj6 a5 true a4_0 a4_1 l4_2 t315 t316)) = some (r1, r2, r3) := H
        have A87 := Aside0.mk A870
        clear A870
        have HC88 := Aside0.mk H
        clear H
        have hnb89 := NB303_304.out
        have hnc89 := NB304_303.out
        have hnb90 := NB303_305.out
        have hnc90 := NB305_303.out
        have hcz91_0 := bc_ BK303.out 0 (.int .i64 a0_0) rfl
        have hcz91_1 := bc_ BK303.out 1 (.int .i64 a0_1) rfl
        have hfz91_0 := blk_frozen BK303.out 0
        have hfz91_1 := blk_frozen BK303.out 1
        have hnb92 := NB304_305.out
        have hnc92 := NB305_304.out
        have hcz93_0 := bc_ BK304.out 0 (.int .i64 a2_0) rfl
        have hcz93_1 := bc_ BK304.out 1 (.int .i64 a2_1) rfl
        have hfz93_0 := blk_frozen BK304.out 0
        have hfz93_1 := blk_frozen BK304.out 1
        go_upto_region 4 with (first | ((with_reducible refine gate_callee (f := 48) rfl ?_); refine goesL_ (some 50) rfl rfl Try.func48 (by kernel_rfl) rfl #[.agg #[.int .i64 a0_0, .int .i64 a0_1], .agg #[.int .i64 a2_0, .int .i64 a2_1], .int .i64 a3] rfl arr_ ?_; (with_reducible refine (impl_GateSpan.calls a0_0 a0_1 a2_0 a2_1 a3 t315 t316 t317 _ A87.out).mono ?_); rintro e w94 ⟨rfl, hb⟩; refine ⟨_, rfl, ?_⟩; have n0_ := Aside0.mk (bb_ BK303.out hb); have n1_ := Aside0.mk (bb_ BK304.out hb); have n2_ := Aside0.mk (bb_ BK305.out hb); have n3_ := Aside0.mk (below_step (hb3_ HB.out GE303.out GE304.out GE305.out) hb); clear BK303; clear BK304; clear BK305; clear HB; have BK303 := n0_; have BK304 := n1_; have BK305 := n2_; have HB := n3_; clear n0_ n1_ n2_ n3_; (try clear hb); (try clear hb2); (try clear hk); (try clear hi)) | ((with_reducible refine gate_dst (N := 15) rfl ?_); refine box_event ?hg (N := 15) ?hd (cs := #[.int .i64 0, .int .i64 0]) (t := 32) ?hr ?_; (case hd => rfl); (case hg => rfl); (case hr => first | (go_simp; done) | (go_simp; rfl)); intro gb318 hg w95 hbox hb; have n0_ := Aside0.mk (bb_ BK303.out hb); have n1_ := Aside0.mk (bb_ BK304.out hb); have n2_ := Aside0.mk (bb_ BK305.out hb); have n3_ := Aside0.mk (below_step (hb3_ HB.out GE303.out GE304.out GE305.out) hb); have n4_ := Aside0.mk (hbox); have n5_ := Aside0.mk ((by rw [hg]; exact (below_size (hb3_ HB.out GE303.out GE304.out GE305.out)) : w.heap.size ≤ gb318)); have n6_ := Aside0.mk ((by rw [hg]; exact (below_size (hb3_ HB.out GE303.out GE304.out GE305.out)) : w.heap.size ≤ gb318)); have n7_ := Aside0.mk ((bl_ hg BK303.out : gb303 ≠ gb318)); have n8_ := Aside0.mk ((bg_ hg BK303.out : gb318 ≠ gb303)); have n9_ := Aside0.mk ((bl_ hg BK304.out : gb304 ≠ gb318)); have n10_ := Aside0.mk ((bg_ hg BK304.out : gb318 ≠ gb304)); have n11_ := Aside0.mk ((bl_ hg BK305.out : gb305 ≠ gb318)); have n12_ := Aside0.mk ((bg_ hg BK305.out : gb318 ≠ gb305)); clear BK303; clear BK304; clear BK305; clear HB; have BK303 := n0_; have BK304 := n1_; have BK305 := n2_; have HB := n3_; have BK318 := n4_; have GW318 := n5_; have GE318 := n6_; have NB303_318 := n7_; have NB318_303 := n8_; have NB304_318 := n9_; have NB318_304 := n10_; have NB305_318 := n11_; have NB318_305 := n12_; clear n0_ n1_ n2_ n3_ n4_ n5_ n6_ n7_ n8_ n9_ n10_ n11_ n12_; clear hb hbox hg; have hnb96 := NB318_303.out; have hnc96 := NB303_318.out; have hnb97 := NB318_304.out; have hnc97 := NB304_318.out; have hnb98 := NB318_305.out; have hnc98 := NB305_318.out; have hcz99_0 := bc_ BK318.out 0 (.int .i64 0) rfl; have hcz99_1 := bc_ BK318.out 1 (.int .i64 0) rfl; have hfz99_0 := blk_frozen BK318.out 0; have hfz99_1 := blk_frozen BK318.out 1))
        (try simp only [Act.put, List.setIfInBounds_toArray, List.set_cons_zero, List.set_cons_succ])
        go_cut [58] (fun v58 wc => ∃ (kq : Nat) (x58_87 : Bool), v58 = .bool x58_87 ∧ Aside0 (impl_GateAsk.j1 kq a5 x58_87 a4_0 a4_1 l4_2 t315 t316 = some (r1, r2, r3)) ∧ Aside0 (kq ≤ kj6) ∧ Aside0 (wc.heap[gb303]? = some (.cells #[.int .i64 a0_0, .int .i64 a0_1] 32 (0, 0))) ∧ Aside0 (wc.heap[gb304]? = some (.cells #[.int .i64 a2_0, .int .i64 a2_1] 34 (0, 0))) ∧ Aside0 (wc.heap[gb305]? = some (.cells #[.int .i64 a4_0, .int .i64 a4_1, (.slice A4_2 l4_2.length c4_2)] 38 (0, 0))) ∧ Aside0 (wc.heap[gb318]? = some (.cells #[.int .i64 t315, .int .i64 t316] 32 (0, 0))) ∧ Aside0 (Below w.heap.size w wc))
        case first =>
          have H := HC88.out
          clear HC88
          by_cases c100 : a1 = true
          · subst c100
            have H1 : (impl_GateAsk.j1 kj6 a5 (!t317) a4_0 a4_1 l4_2 t315 t316) = some (r1, r2, r3) := by rw [if_pos rfl] at H; exact H
            clear H
            have H := H1
            clear H1
            have H' := Aside0.mk H
            clear H
            go_wp2
            go_meet
            case rel => exact ⟨_, (!t317), (by first | rfl | (simp; done) | (simp [*]; done)), H', ⟨by have := HJ6.out; first | omega | exact Nat.le_refl _⟩, ⟨by (with_reducible repeat (first | refine blk_drewN ?_ _ | refine blk_drew ?_ | refine blk_alloc ?_ _)); refine blk_far ?_ NB303_318.out _; (with_reducible repeat (first | refine blk_drewN ?_ _ | refine blk_drew ?_ | refine blk_alloc ?_ _)); refine blk_far ?_ NB303_318.out _; (with_reducible repeat (first | refine blk_drewN ?_ _ | refine blk_drew ?_ | refine blk_alloc ?_ _)); exact BK303.out⟩, ⟨by (with_reducible repeat (first | refine blk_drewN ?_ _ | refine blk_drew ?_ | refine blk_alloc ?_ _)); refine blk_far ?_ NB304_318.out _; (with_reducible repeat (first | refine blk_drewN ?_ _ | refine blk_drew ?_ | refine blk_alloc ?_ _)); refine blk_far ?_ NB304_318.out _; (with_reducible repeat (first | refine blk_drewN ?_ _ | refine blk_drew ?_ | refine blk_alloc ?_ _)); exact BK304.out⟩, ⟨by (with_reducible repeat (first | refine blk_drewN ?_ _ | refine blk_drew ?_ | refine blk_alloc ?_ _)); refine blk_far ?_ NB305_318.out _; (with_reducible repeat (first | refine blk_drewN ?_ _ | refine blk_drew ?_ | refine blk_alloc ?_ _)); refine blk_far ?_ NB305_318.out _; (with_reducible repeat (first | refine blk_drewN ?_ _ | refine blk_drew ?_ | refine blk_alloc ?_ _)); exact BK305.out⟩, ⟨by (with_reducible repeat (first | refine blk_drewN ?_ _ | refine blk_drew ?_ | refine blk_alloc ?_ _)); refine blk_put (cs := #[.int .i64 t315, .int .i64 0]) ?_ 1 _ rfl; (with_reducible repeat (first | refine blk_drewN ?_ _ | refine blk_drew ?_ | refine blk_alloc ?_ _)); refine blk_put (cs := #[.int .i64 0, .int .i64 0]) ?_ 0 _ rfl; (with_reducible repeat (first | refine blk_drewN ?_ _ | refine blk_drew ?_ | refine blk_alloc ?_ _)); exact BK318.out⟩, ⟨hb4_ HB.out GE303.out GE304.out GE305.out GE318.out⟩⟩
          · replace c100 := Bool.eq_false_iff.mpr c100
            subst c100
            have H1 : (impl_GateAsk.j1 kj6 a5 true a4_0 a4_1 l4_2 t315 t316) = some (r1, r2, r3) := by rw [if_neg (show ¬ (false = true) by decide)] at H; exact H
            clear H
            have H := H1
            clear H1
            have H' := Aside0.mk H
            clear H
            go_wp2
            go_meet
            case rel => exact ⟨_, (true), (by first | rfl | (simp; done) | (simp [*]; done)), H', ⟨by have := HJ6.out; first | omega | exact Nat.le_refl _⟩, ⟨by (with_reducible repeat (first | refine blk_drewN ?_ _ | refine blk_drew ?_ | refine blk_alloc ?_ _)); refine blk_far ?_ NB303_318.out _; (with_reducible repeat (first | refine blk_drewN ?_ _ | refine blk_drew ?_ | refine blk_alloc ?_ _)); refine blk_far ?_ NB303_318.out _; (with_reducible repeat (first | refine blk_drewN ?_ _ | refine blk_drew ?_ | refine blk_alloc ?_ _)); exact BK303.out⟩, ⟨by (with_reducible repeat (first | refine blk_drewN ?_ _ | refine blk_drew ?_ | refine blk_alloc ?_ _)); refine blk_far ?_ NB304_318.out _; (with_reducible repeat (first | refine blk_drewN ?_ _ | refine blk_drew ?_ | refine blk_alloc ?_ _)); refine blk_far ?_ NB304_318.out _; (with_reducible repeat (first | refine blk_drewN ?_ _ | refine blk_drew ?_ | refine blk_alloc ?_ _)); exact BK304.out⟩, ⟨by (with_reducible repeat (first | refine blk_drewN ?_ _ | refine blk_drew ?_ | refine blk_alloc ?_ _)); refine blk_far ?_ NB305_318.out _; (with_reducible repeat (first | refine blk_drewN ?_ _ | refine blk_drew ?_ | refine blk_alloc ?_ _)); refine blk_far ?_ NB305_318.out _; (with_reducible repeat (first | refine blk_drewN ?_ _ | refine blk_drew ?_ | refine blk_alloc ?_ _)); exact BK305.out⟩, ⟨by (with_reducible repeat (first | refine blk_drewN ?_ _ | refine blk_drew ?_ | refine blk_alloc ?_ _)); refine blk_put (cs := #[.int .i64 t315, .int .i64 0]) ?_ 1 _ rfl; (with_reducible repeat (first | refine blk_drewN ?_ _ | refine blk_drew ?_ | refine blk_alloc ?_ _)); refine blk_put (cs := #[.int .i64 0, .int .i64 0]) ?_ 0 _ rfl; (with_reducible repeat (first | refine blk_drewN ?_ _ | refine blk_drew ?_ | refine blk_alloc ?_ _)); exact BK318.out⟩, ⟨hb4_ HB.out GE303.out GE304.out GE305.out GE318.out⟩⟩
        case rest =>
          clear HC88
          try clear c1
          try clear c2
          try clear p2
          try clear c3
          try clear c4
          try clear c5
          try clear c6
          try clear c7
          try clear c8
          try clear c9
          try clear c10
          try clear c11
          try clear c13
          try clear c14
          try clear c15
          try clear c17
          try clear c19
          try clear c21
          try clear c22
          try clear c25
          try clear c30
          try clear c31
          try clear c34
          try clear c39
          try clear c40
          try clear c43
          try clear c46
          try clear c47
          try clear c48
          try clear c50
          try clear c53
          try clear c54
          try clear c58
          try clear c60
          try clear c62
          try clear c64
          try clear c65
          try clear c68
          try clear c71
          try clear c72
          try clear c75
          try clear c78
          try clear c79
          try clear c82
          try clear c83
          try clear c86
          try clear c89
          try clear c90
          try clear c92
          try clear c96
          try clear c97
          try clear c98
          try clear c100
          try clear hcz23_0
          try clear hcz23_1
          try clear hcz26_0
          try clear hcz26_1
          try clear hcz28_0
          try clear hcz28_1
          try clear hcz28_2
          try clear hcz32_0
          try clear hcz32_1
          try clear hcz35_0
          try clear hcz35_1
          try clear hcz37_0
          try clear hcz37_1
          try clear hcz37_2
          try clear hcz41_0
          try clear hcz41_1
          try clear hcz44_0
          try clear hcz44_1
          try clear hcz48_0
          try clear hcz48_1
          try clear hcz51_0
          try clear hcz51_1
          try clear hcz55_0
          try clear hcz55_1
          try clear hcz66_0
          try clear hcz66_1
          try clear hcz69_0
          try clear hcz69_1
          try clear hcz69_2
          try clear hcz73_0
          try clear hcz73_1
          try clear hcz76_0
          try clear hcz76_1
          try clear hcz76_2
          try clear hcz80_0
          try clear hcz80_1
          try clear hcz84_0
          try clear hcz84_1
          try clear hcz91_0
          try clear hcz91_1
          try clear hcz93_0
          try clear hcz93_1
          try clear hcz99_0
          try clear hcz99_1
          try clear hfz23_0
          try clear hfz23_1
          try clear hfz26_0
          try clear hfz26_1
          try clear hfz28_0
          try clear hfz28_1
          try clear hfz28_2
          try clear hfz32_0
          try clear hfz32_1
          try clear hfz35_0
          try clear hfz35_1
          try clear hfz37_0
          try clear hfz37_1
          try clear hfz37_2
          try clear hfz41_0
          try clear hfz41_1
          try clear hfz44_0
          try clear hfz44_1
          try clear hfz48_0
          try clear hfz48_1
          try clear hfz51_0
          try clear hfz51_1
          try clear hfz55_0
          try clear hfz55_1
          try clear hfz66_0
          try clear hfz66_1
          try clear hfz69_0
          try clear hfz69_1
          try clear hfz69_2
          try clear hfz73_0
          try clear hfz73_1
          try clear hfz76_0
          try clear hfz76_1
          try clear hfz76_2
          try clear hfz80_0
          try clear hfz80_1
          try clear hfz84_0
          try clear hfz84_1
          try clear hfz91_0
          try clear hfz91_1
          try clear hfz93_0
          try clear hfz93_1
          try clear hfz99_0
          try clear hfz99_1
          try clear p2
          obtain ⟨kq, x58_87, rfl, HA, HJ87, BK303, BK304, BK305, BK318, HB⟩ := hcut
          cases kq with
          | zero => exact absurd HA.out (by simp [impl_GateAsk.j1])
          | succ kj87 =>
            have H := HA.out
            clear HA
            simp only [impl_GateAsk.j1] at H
            by_cases c101 : x58_87 = true
            · subst c101
              have H1 : (some (0, 0, 2)) = some (r1, r2, r3) := by rw [if_pos rfl] at H; exact H
              clear H
              have H := H1
              clear H1
              simp only [Option.some.injEq, Prod.mk.injEq] at H
              obtain ⟨rfl, rfl, rfl⟩ := H
              go_wp2
              go_ret3
              exact ⟨er_, hb4_ HB.out GE303.out GE304.out GE305.out GE318.out⟩
            · replace c101 := Bool.eq_false_iff.mpr c101
              subst c101
              have H1 : ((impl_InSlot.f kj87 a4_0 a4_1 l4_2 a5 t315 t316).bind fun bt319 => (if bt319.2.2 = true then (some (bt319.1, bt319.2.1, 0)) else (some (0, 0, 2)))) = some (r1, r2, r3) := by rw [if_neg (show ¬ (false = true) by decide)] at H; exact H
              clear H
              have H := H1
              clear H1
              replace H := Option.bind_eq_some_iff.mp H
              obtain ⟨⟨t319, t320, t321⟩, A1020, H⟩ := H
              replace H : (if t321 = true then (some (t319, t320, 0)) else (some (0, 0, 2))) = some (r1, r2, r3) := H
              have A102 := Aside0.mk A1020
              clear A1020
              by_cases c103 : t321 = true
              · subst c103
                have H1 : (some (t319, t320, 0)) = some (r1, r2, r3) := by rw [if_pos rfl] at H; exact H
                clear H
                have H := H1
                clear H1
                simp only [Option.some.injEq, Prod.mk.injEq] at H
                obtain ⟨rfl, rfl, rfl⟩ := H
                have hnb104 := NB305_303.out
                have hnc104 := NB303_305.out
                have hnb105 := NB305_304.out
                have hnc105 := NB304_305.out
                have hnb106 := NB305_318.out
                have hnc106 := NB318_305.out
                have hcz107_0 := bc_ BK305.out 0 (.int .i64 a4_0) rfl
                have hcz107_1 := bc_ BK305.out 1 (.int .i64 a4_1) rfl
                have hcz107_2 := bc_ BK305.out 2 (.slice A4_2 l4_2.length c4_2) rfl
                have hfz107_0 := blk_frozen BK305.out 0
                have hfz107_1 := blk_frozen BK305.out 1
                have hfz107_2 := blk_frozen BK305.out 2
                have hnb108 := NB318_303.out
                have hnc108 := NB303_318.out
                have hnb109 := NB318_304.out
                have hnc109 := NB304_318.out
                have hcz110_0 := bc_ BK318.out 0 (.int .i64 t315) rfl
                have hcz110_1 := bc_ BK318.out 1 (.int .i64 t316) rfl
                have hfz110_0 := blk_frozen BK318.out 0
                have hfz110_1 := blk_frozen BK318.out 1
                go_wp2_with (first | ((with_reducible refine gate_callee (f := 49) rfl ?_); refine goesL_ (some 66) rfl rfl Try.func49 (by kernel_rfl) rfl #[.agg #[.int .i64 a4_0, .int .i64 a4_1, .slice A4_2 l4_2.length c4_2], .int .i64 a5, .int .i64 t315, .int .i64 t316] rfl arr_ ?_; (with_reducible refine (impl_InSlot.calls kj87 a4_0 a4_1 _ _ l4_2 a5 t315 t316 t319 t320 true _ ?side1 ?side2 A102.out).mono ?_); (case side1 => exact kc_ (Kd.C_below HR4_2.out HB.out)); (case side2 => exact HC4_2.out); rintro e w111 ⟨rfl, hb⟩; refine ⟨_, rfl, ?_⟩; have n0_ := Aside0.mk (bb_ BK303.out hb); have n1_ := Aside0.mk (bb_ BK304.out hb); have n2_ := Aside0.mk (bb_ BK305.out hb); have n3_ := Aside0.mk (bb_ BK318.out hb); have n4_ := Aside0.mk (below_step (hb4_ HB.out GE303.out GE304.out GE305.out GE318.out) hb); clear BK303; clear BK304; clear BK305; clear BK318; clear HB; have BK303 := n0_; have BK304 := n1_; have BK305 := n2_; have BK318 := n3_; have HB := n4_; clear n0_ n1_ n2_ n3_ n4_; (try clear hb); (try clear hb2); (try clear hk); (try clear hi)))
                go_ret3
                exact ⟨er_, hb4_ HB.out GE303.out GE304.out GE305.out GE318.out⟩
              · replace c103 := Bool.eq_false_iff.mpr c103
                subst c103
                have H1 : (some (0, 0, 2)) = some (r1, r2, r3) := by rw [if_neg (show ¬ (false = true) by decide)] at H; exact H
                clear H
                have H := H1
                clear H1
                simp only [Option.some.injEq, Prod.mk.injEq] at H
                obtain ⟨rfl, rfl, rfl⟩ := H
                have hnb112 := NB305_303.out
                have hnc112 := NB303_305.out
                have hnb113 := NB305_304.out
                have hnc113 := NB304_305.out
                have hnb114 := NB305_318.out
                have hnc114 := NB318_305.out
                have hcz115_0 := bc_ BK305.out 0 (.int .i64 a4_0) rfl
                have hcz115_1 := bc_ BK305.out 1 (.int .i64 a4_1) rfl
                have hcz115_2 := bc_ BK305.out 2 (.slice A4_2 l4_2.length c4_2) rfl
                have hfz115_0 := blk_frozen BK305.out 0
                have hfz115_1 := blk_frozen BK305.out 1
                have hfz115_2 := blk_frozen BK305.out 2
                have hnb116 := NB318_303.out
                have hnc116 := NB303_318.out
                have hnb117 := NB318_304.out
                have hnc117 := NB304_318.out
                have hcz118_0 := bc_ BK318.out 0 (.int .i64 t315) rfl
                have hcz118_1 := bc_ BK318.out 1 (.int .i64 t316) rfl
                have hfz118_0 := blk_frozen BK318.out 0
                have hfz118_1 := blk_frozen BK318.out 1
                go_wp2_with (first | ((with_reducible refine gate_callee (f := 49) rfl ?_); refine goesL_ (some 66) rfl rfl Try.func49 (by kernel_rfl) rfl #[.agg #[.int .i64 a4_0, .int .i64 a4_1, .slice A4_2 l4_2.length c4_2], .int .i64 a5, .int .i64 t315, .int .i64 t316] rfl arr_ ?_; (with_reducible refine (impl_InSlot.calls kj87 a4_0 a4_1 _ _ l4_2 a5 t315 t316 t319 t320 false _ ?side1 ?side2 A102.out).mono ?_); (case side1 => exact kc_ (Kd.C_below HR4_2.out HB.out)); (case side2 => exact HC4_2.out); rintro e w119 ⟨rfl, hb⟩; refine ⟨_, rfl, ?_⟩; have n0_ := Aside0.mk (bb_ BK303.out hb); have n1_ := Aside0.mk (bb_ BK304.out hb); have n2_ := Aside0.mk (bb_ BK305.out hb); have n3_ := Aside0.mk (bb_ BK318.out hb); have n4_ := Aside0.mk (below_step (hb4_ HB.out GE303.out GE304.out GE305.out GE318.out) hb); clear BK303; clear BK304; clear BK305; clear BK318; clear HB; have BK303 := n0_; have BK304 := n1_; have BK305 := n2_; have BK318 := n3_; have HB := n4_; clear n0_ n1_ n2_ n3_ n4_; (try clear hb); (try clear hb2); (try clear hk); (try clear hi)))
                go_ret3
                exact ⟨er_, hb4_ HB.out GE303.out GE304.out GE305.out GE318.out⟩
end Go.Proofs.Ytejohmompmjhnaa.P

namespace Go.Proofs.Ytejohmompmjhnaa.P
open Go.RowKit Go.Proofs.YtejohmompmjhnaaW.PrintWords Go.Proofs.YtejohmompmjhnaaW.PrintLast Go.Proofs.YtejohmompmjhnaaW.PrintMore
attribute [local go_sem] max2_int min2_int max_two min_two max_three min_three max_four min_four
set_option linter.unusedVariables false
set_option linter.unusedSimpArgs false
def laws_eqSlot.f (a0_0 : Int) (a0_1 : Int) (a1_0 : Int) (a1_1 : Int) : Option (Bool) := if a0_0 = a1_0 then (if a0_1 = a1_1 then (some true) else (some false)) else (some false)
set_option maxHeartbeats 8000000 in
set_option maxRecDepth 100000 in
theorem laws_eqSlot.calls (a0_0 : Int) (a0_1 : Int) (a1_0 : Int) (a1_1 : Int) (r : Bool) (w : World) (h : laws_eqSlot.f a0_0 a0_1 a1_0 a1_1 = some r) :
    Calls Try.prog 89 #[.agg #[.int .i64 a0_0, .int .i64 a0_1], .agg #[.int .i64 a1_0, .int .i64 a1_1]] w fun e w' => e = .returned (.bool r) ∧ Below w.heap.size w w' := by
  have hu55 := Try.underlying55
  have HB := Aside0.mk (Below.refl w.heap.size w)
  have H : (if a0_0 = a1_0 then (if a0_1 = a1_1 then (some true) else (some false)) else (some false)) = some r := h
  clear h
  by_cases c3 : a0_0 = a1_0
  · rw [if_pos c3] at H
    have c3b0 : (a0_0 == a1_0) = true := beq_iff_eq.mpr c3
    have c3b1 : (a0_0 != a1_0) = false := bne_eq_false_iff_eq.mpr c3
    clear c3
    by_cases c4 : a0_1 = a1_1
    · rw [if_pos c4] at H
      have c4b0 : (a0_1 == a1_1) = true := beq_iff_eq.mpr c4
      have c4b1 : (a0_1 != a1_1) = false := bne_eq_false_iff_eq.mpr c4
      clear c4
      obtain rfl := Option.some.inj H
      go_enter Try.func89, Try.ntmps89
      go_wp2_with (first | ((with_reducible refine gate_dst (N := 2) rfl ?_); refine box_event ?hg (N := 2) ?hd (cs := #[.int .i64 a0_0, .int .i64 a0_1]) (t := 55) ?hr ?_; (case hd => rfl); (case hg => rfl); (case hr => first | (go_simp; done) | (go_simp; rfl)); intro gb322 hg w5 hbox hb; have n0_ := Aside0.mk (below_step (hb_ HB.out) hb); have n1_ := Aside0.mk (hbox); have n2_ := Aside0.mk ((by rw [hg]; exact (below_size (hb_ HB.out)) : w.heap.size ≤ gb322)); have n3_ := Aside0.mk ((by rw [hg]; exact (below_size (hb_ HB.out)) : w.heap.size ≤ gb322)); clear HB; have HB := n0_; have BK322 := n1_; have GW322 := n2_; have GE322 := n3_; clear n0_ n1_ n2_ n3_; clear hb hbox hg) | ((with_reducible refine gate_dst (N := 3) rfl ?_); refine box_event ?hg (N := 3) ?hd (cs := #[.int .i64 a1_0, .int .i64 a1_1]) (t := 55) ?hr ?_; (case hd => rfl); (case hg => rfl); (case hr => first | (go_simp; done) | (go_simp; rfl)); intro gb323 hg w6 hbox hb; have n0_ := Aside0.mk (bb_ BK322.out hb); have n1_ := Aside0.mk (below_step (hb1_ HB.out GE322.out) hb); have n2_ := Aside0.mk (hbox); have n3_ := Aside0.mk ((by rw [hg]; exact (below_size (hb1_ HB.out GE322.out)) : w.heap.size ≤ gb323)); have n4_ := Aside0.mk ((by rw [hg]; exact (below_size (hb1_ HB.out GE322.out)) : w.heap.size ≤ gb323)); have n5_ := Aside0.mk ((bl_ hg BK322.out : gb322 ≠ gb323)); have n6_ := Aside0.mk ((bg_ hg BK322.out : gb323 ≠ gb322)); clear BK322; clear HB; have BK322 := n0_; have HB := n1_; have BK323 := n2_; have GW323 := n3_; have GE323 := n4_; have NB322_323 := n5_; have NB323_322 := n6_; clear n0_ n1_ n2_ n3_ n4_ n5_ n6_; clear hb hbox hg; have hnb7 := NB322_323.out; have hnc7 := NB323_322.out; have hcz8_0 := bc_ BK322.out 0 (.int .i64 a0_0) rfl; have hcz8_1 := bc_ BK322.out 1 (.int .i64 a0_1) rfl; have hfz8_0 := blk_frozen BK322.out 0; have hfz8_1 := blk_frozen BK322.out 1; have hcz9_0 := bc_ BK323.out 0 (.int .i64 a1_0) rfl; have hcz9_1 := bc_ BK323.out 1 (.int .i64 a1_1) rfl; have hfz9_0 := blk_frozen BK323.out 0; have hfz9_1 := blk_frozen BK323.out 1))
      go_ret
      exact ⟨er_, hb2_ HB.out GE322.out GE323.out⟩
    · rw [if_neg c4] at H
      have c4b0 : (a0_1 == a1_1) = false := beq_eq_false_iff_ne.mpr c4
      have c4b1 : (a0_1 != a1_1) = true := bne_iff_ne.mpr c4
      obtain rfl := Option.some.inj H
      go_enter Try.func89, Try.ntmps89
      go_wp2_with (first | ((with_reducible refine gate_dst (N := 2) rfl ?_); refine box_event ?hg (N := 2) ?hd (cs := #[.int .i64 a0_0, .int .i64 a0_1]) (t := 55) ?hr ?_; (case hd => rfl); (case hg => rfl); (case hr => first | (go_simp; done) | (go_simp; rfl)); intro gb322 hg w10 hbox hb; have n0_ := Aside0.mk (below_step (hb_ HB.out) hb); have n1_ := Aside0.mk (hbox); have n2_ := Aside0.mk ((by rw [hg]; exact (below_size (hb_ HB.out)) : w.heap.size ≤ gb322)); have n3_ := Aside0.mk ((by rw [hg]; exact (below_size (hb_ HB.out)) : w.heap.size ≤ gb322)); clear HB; have HB := n0_; have BK322 := n1_; have GW322 := n2_; have GE322 := n3_; clear n0_ n1_ n2_ n3_; clear hb hbox hg) | ((with_reducible refine gate_dst (N := 3) rfl ?_); refine box_event ?hg (N := 3) ?hd (cs := #[.int .i64 a1_0, .int .i64 a1_1]) (t := 55) ?hr ?_; (case hd => rfl); (case hg => rfl); (case hr => first | (go_simp; done) | (go_simp; rfl)); intro gb323 hg w11 hbox hb; have n0_ := Aside0.mk (bb_ BK322.out hb); have n1_ := Aside0.mk (below_step (hb1_ HB.out GE322.out) hb); have n2_ := Aside0.mk (hbox); have n3_ := Aside0.mk ((by rw [hg]; exact (below_size (hb1_ HB.out GE322.out)) : w.heap.size ≤ gb323)); have n4_ := Aside0.mk ((by rw [hg]; exact (below_size (hb1_ HB.out GE322.out)) : w.heap.size ≤ gb323)); have n5_ := Aside0.mk ((bl_ hg BK322.out : gb322 ≠ gb323)); have n6_ := Aside0.mk ((bg_ hg BK322.out : gb323 ≠ gb322)); clear BK322; clear HB; have BK322 := n0_; have HB := n1_; have BK323 := n2_; have GW323 := n3_; have GE323 := n4_; have NB322_323 := n5_; have NB323_322 := n6_; clear n0_ n1_ n2_ n3_ n4_ n5_ n6_; clear hb hbox hg; have hnb12 := NB322_323.out; have hnc12 := NB323_322.out; have hcz13_0 := bc_ BK322.out 0 (.int .i64 a0_0) rfl; have hcz13_1 := bc_ BK322.out 1 (.int .i64 a0_1) rfl; have hfz13_0 := blk_frozen BK322.out 0; have hfz13_1 := blk_frozen BK322.out 1; have hcz14_0 := bc_ BK323.out 0 (.int .i64 a1_0) rfl; have hcz14_1 := bc_ BK323.out 1 (.int .i64 a1_1) rfl; have hfz14_0 := blk_frozen BK323.out 0; have hfz14_1 := blk_frozen BK323.out 1))
      go_ret
      exact ⟨er_, hb2_ HB.out GE322.out GE323.out⟩
  · rw [if_neg c3] at H
    have c3b0 : (a0_0 == a1_0) = false := beq_eq_false_iff_ne.mpr c3
    have c3b1 : (a0_0 != a1_0) = true := bne_iff_ne.mpr c3
    obtain rfl := Option.some.inj H
    go_enter Try.func89, Try.ntmps89
    go_wp2_with (first | ((with_reducible refine gate_dst (N := 2) rfl ?_); refine box_event ?hg (N := 2) ?hd (cs := #[.int .i64 a0_0, .int .i64 a0_1]) (t := 55) ?hr ?_; (case hd => rfl); (case hg => rfl); (case hr => first | (go_simp; done) | (go_simp; rfl)); intro gb322 hg w15 hbox hb; have n0_ := Aside0.mk (below_step (hb_ HB.out) hb); have n1_ := Aside0.mk (hbox); have n2_ := Aside0.mk ((by rw [hg]; exact (below_size (hb_ HB.out)) : w.heap.size ≤ gb322)); have n3_ := Aside0.mk ((by rw [hg]; exact (below_size (hb_ HB.out)) : w.heap.size ≤ gb322)); clear HB; have HB := n0_; have BK322 := n1_; have GW322 := n2_; have GE322 := n3_; clear n0_ n1_ n2_ n3_; clear hb hbox hg) | ((with_reducible refine gate_dst (N := 3) rfl ?_); refine box_event ?hg (N := 3) ?hd (cs := #[.int .i64 a1_0, .int .i64 a1_1]) (t := 55) ?hr ?_; (case hd => rfl); (case hg => rfl); (case hr => first | (go_simp; done) | (go_simp; rfl)); intro gb323 hg w16 hbox hb; have n0_ := Aside0.mk (bb_ BK322.out hb); have n1_ := Aside0.mk (below_step (hb1_ HB.out GE322.out) hb); have n2_ := Aside0.mk (hbox); have n3_ := Aside0.mk ((by rw [hg]; exact (below_size (hb1_ HB.out GE322.out)) : w.heap.size ≤ gb323)); have n4_ := Aside0.mk ((by rw [hg]; exact (below_size (hb1_ HB.out GE322.out)) : w.heap.size ≤ gb323)); have n5_ := Aside0.mk ((bl_ hg BK322.out : gb322 ≠ gb323)); have n6_ := Aside0.mk ((bg_ hg BK322.out : gb323 ≠ gb322)); clear BK322; clear HB; have BK322 := n0_; have HB := n1_; have BK323 := n2_; have GW323 := n3_; have GE323 := n4_; have NB322_323 := n5_; have NB323_322 := n6_; clear n0_ n1_ n2_ n3_ n4_ n5_ n6_; clear hb hbox hg; have hnb17 := NB322_323.out; have hnc17 := NB323_322.out; have hcz18_0 := bc_ BK322.out 0 (.int .i64 a0_0) rfl; have hcz18_1 := bc_ BK322.out 1 (.int .i64 a0_1) rfl; have hfz18_0 := blk_frozen BK322.out 0; have hfz18_1 := blk_frozen BK322.out 1; have hcz19_0 := bc_ BK323.out 0 (.int .i64 a1_0) rfl; have hcz19_1 := bc_ BK323.out 1 (.int .i64 a1_1) rfl; have hfz19_0 := blk_frozen BK323.out 0; have hfz19_1 := blk_frozen BK323.out 1))
    go_ret
    exact ⟨er_, hb2_ HB.out GE322.out GE323.out⟩
def laws_eqSlotS.l0 : Nat → List (S55) → List (S55) → Int → Option (Bool)
  | 0, _, _, _ => none
  | k + 1, x0, x1, x5 => if x5 < (x0.length : Int) then (if 0 ≤ x5 then (if x5 < (x1.length : Int) then ((laws_eqSlot.f ((rd_T55 x0 x5).f0) ((rd_T55 x0 x5).f1) ((rd_T55 x1 x5).f0) ((rd_T55 x1 x5).f1)).bind fun t326 => (if t326 = true then (laws_eqSlotS.l0 k x0 x1 (wrap64 (x5 + 1))) else (some false))) else (none)) else (none)) else (some true)
def laws_eqSlotS.f (k : Nat) (l0 : List (S55)) (l1 : List (S55)) : Option (Bool) := if (l0.length : Int) = (l1.length : Int) then (laws_eqSlotS.l0 k l0 l1 0) else (some false)
theorem laws_eqSlotS.mono_l : ∀ k, (∀ y0 y1 y2, LeO (laws_eqSlotS.l0 k y0 y1 y2) (laws_eqSlotS.l0 (k + 1) y0 y1 y2))
  | 0 => fun _ _ _ r h => by simp [laws_eqSlotS.l0] at h
  | k + 1 => by
    have ih0 := laws_eqSlotS.mono_l k
    · intro y0 y1 y2
      unfold laws_eqSlotS.l0
      repeat' first
      | (with_reducible exact ih0 _ _ _)
      | (with_reducible exact LeO.refl _)
      | (with_reducible exact LeO.none _)
      | (with_reducible refine LeO.ite ?_ ?_)
      | (with_reducible refine LeO.bind ?_ (fun _ => ?_))
      | exact ih0 _ _ _
      | exact LeO.none _
      | refine LeO.ite ?_ ?_
      | refine LeO.bind ?_ (fun _ => ?_)
theorem laws_eqSlotS.mono : ∀ a0 a1 k, LeO (laws_eqSlotS.f k a0 a1) (laws_eqSlotS.f (k + 1) a0 a1) := by
  intro a0 a1 k
  have ih0 := laws_eqSlotS.mono_l k
  unfold laws_eqSlotS.f
  repeat' first
      | (with_reducible exact ih0 _ _ _)
      | (with_reducible exact LeO.refl _)
      | (with_reducible exact LeO.none _)
      | (with_reducible refine LeO.ite ?_ ?_)
      | (with_reducible refine LeO.bind ?_ (fun _ => ?_))
      | exact ih0 _ _ _
      | exact LeO.none _
      | refine LeO.ite ?_ ?_
      | refine LeO.bind ?_ (fun _ => ?_)
def laws_eqSlotS.T6 : Bool × List (List Nat × List Nat) := (true, [([], []), ([], []), ([0, 1], [0, 1]), ([2], [2]), ([], []), ([], []), ([4, 5], [4, 5]), ([6], [6]), ([3, 7], [3, 7]), ([8], [8])])
def laws_eqSlotS.B6 : List Nat := [0, 0, 3, 7, 0, 0, 48, 112, 255, 511]
theorem laws_eqSlotS.tab6 : rtab .any (opsOf Try.f50 6) = laws_eqSlotS.T6 := by kernel_rfl
theorem laws_eqSlotS.bits6 : waitsOk laws_eqSlotS.T6.2 laws_eqSlotS.B6 = true := by kernel_rfl
set_option maxHeartbeats 8000000 in
set_option maxRecDepth 100000 in
theorem laws_eqSlotS.calls (k : Nat) (A0 : Option Addr) (c0 : Nat) (l0 : List (S55)) (A1 : Option Addr) (c1 : Nat) (l1 : List (S55)) (r : Bool) (w : World) (hr0 : Kd.C k55 w A0 l0.length l0) (hc0 : l0.length ≤ c0) (hr1 : Kd.C k55 w A1 l1.length l1) (hc1 : l1.length ≤ c1) (h : laws_eqSlotS.f k l0 l1 = some r) :
    Calls Try.prog 50 #[.slice A0 l0.length c0, .slice A1 l1.length c1] w fun e w' => e = .returned (.bool r) ∧ Below w.heap.size w w' := by
  have hu55 := Try.underlying55
  have HR0 := Aside0.mk hr0
  have HC0 := Aside0.mk hc0
  clear hr0 hc0
  have HR1 := Aside0.mk hr1
  have HC1 := Aside0.mk hc1
  clear hr1 hc1
  have HB := Aside0.mk (Below.refl w.heap.size w)
  have H : (if (l0.length : Int) = (l1.length : Int) then (laws_eqSlotS.l0 k l0 l1 0) else (some false)) = some r := h
  clear h
  by_cases c3 : (l0.length : Int) = (l1.length : Int)
  · rw [if_pos c3] at H
    have c3b0 : ((l0.length : Int) == (l1.length : Int)) = true := beq_iff_eq.mpr c3
    have c3b1 : ((l0.length : Int) != (l1.length : Int)) = false := bne_eq_false_iff_eq.mpr c3
    have c3b2 : (l0.length == l1.length) = true := by first | simpa using c3 | (simp at c3 ⊢; omega)
    clear c3
    have H' := Aside0.mk H
    clear H
    go_enter Try.func50, Try.ntmps50
    go_wp2
    go_loopg [5] k (fun kq v5 w' => ∃ (x5_1 : Int), v5 = .int .i64 x5_1 ∧ Aside0 (laws_eqSlotS.l0 kq l0 l1 x5_1 = some r) ∧ Aside0 (kq ≤ k) ∧ Aside0 (Below w.heap.size w w'))
    case atStart => exact ⟨(0), (by first | rfl | (simp; done) | (simp [*]; done)), H', ⟨Nat.le_refl _⟩, ⟨hb_ HB.out⟩⟩
    case round =>
      clear H'
      try clear c1
      try clear p2
      try clear c3
      try clear c3b0
      try clear c3b1
      try clear c3b2
      obtain ⟨x5_1, rfl, HA, HK1, HB⟩ := hrel
      cases gk with
      | zero => exact absurd HA.out (by simp [laws_eqSlotS.l0])
      | succ k1 =>
        have H := HA.out
        clear HA
        simp only [laws_eqSlotS.l0] at H
        by_cases c4 : x5_1 < (l0.length : Int)
        · rw [if_pos c4] at H
          have c4b0 : decide (x5_1 < (l0.length : Int)) = true := decide_eq_true c4
          clear c4
          by_cases c5 : 0 ≤ x5_1
          · rw [if_pos c5] at H
            have c5b0 : decide (0 ≤ x5_1) = true := decide_eq_true c5
            clear c5
            by_cases c6 : x5_1 < (l1.length : Int)
            · rw [if_pos c6] at H
              have c6b0 : decide (x5_1 < (l1.length : Int)) = true := decide_eq_true c6
              clear c6
              replace H := Option.bind_eq_some_iff.mp H
              obtain ⟨t326, A70, H⟩ := H
              replace H : (if t326 = true then (laws_eqSlotS.l0 k1 l0 l1 (wrap64 (x5_1 + 1))) else (some false)) = some r := H
              have A7 := Aside0.mk A70
              clear A70
              by_cases c8 : t326 = true
              · subst c8
                have H1 : (laws_eqSlotS.l0 k1 l0 l1 (wrap64 (x5_1 + 1))) = some r := by rw [if_pos rfl] at H; exact H
                clear H
                have H := H1
                clear H1
                have H' := Aside0.mk H
                clear H
                try go_wp2
                have n0_ := Aside0.mk (below_drew1 HB.out)
                clear HB
                have HB := n0_
                clear n0_
                have p324 : 0 ≤ (x5_1 : Int) := of_decide_eq_true (by first | (with_reducible assumption) | assumption)
                have q324 : x5_1 < (l0.length : Int) := of_decide_eq_true (by first | (with_reducible assumption) | assumption)
                obtain ⟨ad324, e324, hx324_0, hx324_1⟩ := at_T55 HR0.out x5_1 p324 q324
                have hw324_1 := hx324_1
                have hw324_0 := hx324_0
                cases e324
                replace hx324_0 := (HB.out.cell (World.block_lt_of_cell? w _ hx324_0)).trans hx324_0
                replace hx324_1 := (HB.out.cell (World.block_lt_of_cell? w _ hx324_1)).trans hx324_1
                replace p324 := eq_true p324
                replace q324 := eq_true q324
                have p325 : 0 ≤ (x5_1 : Int) := of_decide_eq_true (by first | (with_reducible assumption) | assumption)
                have q325 : x5_1 < (l1.length : Int) := of_decide_eq_true (by first | (with_reducible assumption) | assumption)
                obtain ⟨ad325, e325, hx325_0, hx325_1⟩ := at_T55 HR1.out x5_1 p325 q325
                have hw325_1 := hx325_1
                have hw325_0 := hx325_0
                cases e325
                replace hx325_0 := (HB.out.cell (World.block_lt_of_cell? w _ hx325_0)).trans hx325_0
                replace hx325_1 := (HB.out.cell (World.block_lt_of_cell? w _ hx325_1)).trans hx325_1
                replace p325 := eq_true p325
                replace q325 := eq_true q325
                refine start_ (n := 10) (S := fun w' => w'.cell? (ad324.add ((x5_1).toNat * 2)) = some (.int .i64 ((rd_T55 l0 x5_1).f0)) ∧ w'.cell? ⟨(ad324.add ((x5_1).toNat * 2)).block, (ad324.add ((x5_1).toNat * 2)).off + 1, none⟩ = some (.int .i64 ((rd_T55 l0 x5_1).f1)) ∧ w'.cell? (ad325.add ((x5_1).toNat * 2)) = some (.int .i64 ((rd_T55 l1 x5_1).f0)) ∧ w'.cell? ⟨(ad325.add ((x5_1).toNat * 2)).block, (ad325.add ((x5_1).toNat * 2)).off + 1, none⟩ = some (.int .i64 ((rd_T55 l1 x5_1).f1))) (ds := []) #[false, false, false, false, false, false, false, false, false, false] (by kernel_rfl) rfl rfl ⟨((HB.out.cell (World.block_lt_of_cell? w _ hw324_0)).trans hw324_0), ((HB.out.cell (World.block_lt_of_cell? w _ hw324_1)).trans hw324_1), ((HB.out.cell (World.block_lt_of_cell? w _ hw325_0)).trans hw325_0), ((HB.out.cell (World.block_lt_of_cell? w _ hw325_1)).trans hw325_1)⟩ (fun hHeld => ?_); refine with_tabW laws_eqSlotS.tab6 laws_eqSlotS.bits6 (fun HT_ HW_ => ?_)
                generalize wr.drew = w9 at HB hx324_0 hx324_1 hx325_0 hx325_1 hHeld ⊢
                refine pure_ (i := 0) (N := some 17) (v := ?_) (a' := ?_) #[true, false, false, false, false, false, false, false, false, false] rfl rfl (any_of HT_.out (by kernel_rfl)) (fun _ _ _ h => h) (Or.inl ⟨by rfl, ?_⟩) ?_ ?_
                rotate_left
                · intro w'
                  go_simp
                  with_reducible rfl
                rotate_left
                · simp only [Act.put, List.setIfInBounds_toArray, List.set_cons_zero, List.set_cons_succ, i64_w, i32_w]
                  rfl
                refine pure_ (i := 1) (N := some 18) (v := ?_) (a' := ?_) #[true, true, false, false, false, false, false, false, false, false] rfl rfl (any_of HT_.out (by kernel_rfl)) (fun _ _ _ h => h) (Or.inl ⟨by rfl, ?_⟩) ?_ ?_
                rotate_left
                · intro w'
                  go_simp
                  with_reducible rfl
                rotate_left
                · simp only [Act.put, List.setIfInBounds_toArray, List.set_cons_zero, List.set_cons_succ, i64_w, i32_w]
                  rfl
                refine pure_ (i := 2) (N := some 19) (v := ?_) (a' := ?_) #[true, true, true, false, false, false, false, false, false, false] rfl rfl (any_of HT_.out (by kernel_rfl)) (fun _ _ _ h => h) (Or.inl ⟨by rfl, ?_⟩) ?_ ?_
                rotate_left
                · intro w'
                  go_simp
                  with_reducible rfl
                rotate_left
                · simp only [Act.put, List.setIfInBounds_toArray, List.set_cons_zero, List.set_cons_succ, i64_w, i32_w]
                  rfl
                refine pure_ (i := 4) (N := some 21) (v := ?_) (a' := ?_) #[true, true, true, false, true, false, false, false, false, false] rfl rfl (any_of HT_.out (by kernel_rfl)) (fun _ _ _ h => h) (Or.inl ⟨by rfl, ?_⟩) ?_ ?_
                rotate_left
                · intro w'
                  go_simp
                  with_reducible rfl
                rotate_left
                · simp only [Act.put, List.setIfInBounds_toArray, List.set_cons_zero, List.set_cons_succ, i64_w, i32_w]
                  rfl
                refine pure_ (i := 5) (N := some 22) (v := ?_) (a' := ?_) #[true, true, true, false, true, true, false, false, false, false] rfl rfl (any_of HT_.out (by kernel_rfl)) (fun _ _ _ h => h) (Or.inl ⟨by rfl, ?_⟩) ?_ ?_
                rotate_left
                · intro w'
                  go_simp
                  with_reducible rfl
                rotate_left
                · simp only [Act.put, List.setIfInBounds_toArray, List.set_cons_zero, List.set_cons_succ, i64_w, i32_w]
                  rfl
                refine pure_ (i := 6) (N := some 23) (v := ?_) (a' := ?_) #[true, true, true, false, true, true, true, false, false, false] rfl rfl (any_of HT_.out (by kernel_rfl)) (fun _ _ _ h => h) (Or.inl ⟨by rfl, ?_⟩) ?_ ?_
                rotate_left
                · intro w'
                  go_simp
                  with_reducible rfl
                rotate_left
                · simp only [Act.put, List.setIfInBounds_toArray, List.set_cons_zero, List.set_cons_succ, i64_w, i32_w]
                  rfl
                refine take_ (i := 3) (N := some 20) (v := ?_) (a' := ?_) #[true, true, true, true, true, true, true, false, false, false] rfl rfl (take_ofW HT_.out HW_.out (by kernel_rfl)) (fun _ _ _ h => h) (Or.inl ⟨by rfl, ?_⟩) hHeld ?_ ?_
                rotate_left
                · rintro w' ⟨s0, s1, s2, s3⟩
                  go_simp
                  with_reducible rfl
                rotate_left
                · simp only [Act.put, List.setIfInBounds_toArray, List.set_cons_zero, List.set_cons_succ, i64_w, i32_w]
                  rfl
                refine take_ (i := 7) (N := some 24) (v := ?_) (a' := ?_) #[true, true, true, true, true, true, true, true, false, false] rfl rfl (take_ofW HT_.out HW_.out (by kernel_rfl)) (fun _ _ _ h => h) (Or.inl ⟨by rfl, ?_⟩) hHeld ?_ ?_
                rotate_left
                · rintro w' ⟨s0, s1, s2, s3⟩
                  go_simp
                  with_reducible rfl
                rotate_left
                · simp only [Act.put, List.setIfInBounds_toArray, List.set_cons_zero, List.set_cons_succ, i64_w, i32_w]
                  rfl
                refine one_ (i := 8) (N := some 25) #[true, true, true, true, true, true, true, true, true, false] rfl rfl (one_of HT_.out (by kernel_rfl)) (by decide) (fun K hK => ?_)
                refine goes_ Try.func89 (by kernel_rfl) rfl #[.agg #[.int .i64 ((rd_T55 l0 x5_1).f0), .int .i64 ((rd_T55 l0 x5_1).f1)], .agg #[.int .i64 ((rd_T55 l1 x5_1).f0), .int .i64 ((rd_T55 l1 x5_1).f1)]] (by rfl) rfl rfl arr_ ?_
                with_reducible refine (laws_eqSlot.calls ((rd_T55 l0 x5_1).f0) ((rd_T55 l0 x5_1).f1) ((rd_T55 l1 x5_1).f0) ((rd_T55 l1 x5_1).f1) true _ A7.out).mono ?_
                rintro e w10 ⟨rfl, hb⟩
                refine ⟨_, rfl, ?_⟩
                have n0_ := Aside0.mk (below_step (hb_ HB.out) hb)
                clear HB
                have HB := n0_
                clear n0_
                (try clear hb)
                (try clear hb2)
                (try clear hk)
                (try clear hi)
                refine hK.out _ _ ⟨((HB.out.cell (World.block_lt_of_cell? w _ hw324_0)).trans hw324_0), ((HB.out.cell (World.block_lt_of_cell? w _ hw324_1)).trans hw324_1), ((HB.out.cell (World.block_lt_of_cell? w _ hw325_0)).trans hw325_0), ((HB.out.cell (World.block_lt_of_cell? w _ hw325_1)).trans hw325_1)⟩ (fun hHeld => ?_)
                clear hK K
                refine norm_ (a' := ?_) ?_ ?_
                rotate_left
                · show Act.put _ (some 25) _ = _
                  simp only [Act.put, List.setIfInBounds_toArray, List.set_cons_zero, List.set_cons_succ, i64_w, i32_w]
                  rfl
                refine pure_ (i := 9) (N := some 26) (v := ?_) (a' := ?_) #[true, true, true, true, true, true, true, true, true, true] rfl rfl (any_of HT_.out (by kernel_rfl)) (fun _ _ _ h => h) (Or.inl ⟨by rfl, ?_⟩) ?_ ?_
                rotate_left
                · intro w'
                  go_simp
                  with_reducible rfl
                rotate_left
                · simp only [Act.put, List.setIfInBounds_toArray, List.set_cons_zero, List.set_cons_succ, i64_w, i32_w]
                  rfl
                refine done_ (done_of HT_.out (by kernel_rfl)) ?_
                try go_wp2
                go_roundg k1
                case measure => have := HK1.out; omega
                case rel => exact ⟨(wrap64 (x5_1 + 1)), (by first | rfl | (simp; done) | (simp [*]; done)), H', ⟨by have := HK1.out; omega⟩, ⟨hb_ HB.out⟩⟩
              · replace c8 := Bool.eq_false_iff.mpr c8
                subst c8
                have H1 : (some false) = some r := by rw [if_neg (show ¬ (false = true) by decide)] at H; exact H
                clear H
                have H := H1
                clear H1
                obtain rfl := Option.some.inj H
                try go_wp2
                have n0_ := Aside0.mk (below_drew1 HB.out)
                clear HB
                have HB := n0_
                clear n0_
                have p324 : 0 ≤ (x5_1 : Int) := of_decide_eq_true (by first | (with_reducible assumption) | assumption)
                have q324 : x5_1 < (l0.length : Int) := of_decide_eq_true (by first | (with_reducible assumption) | assumption)
                obtain ⟨ad324, e324, hx324_0, hx324_1⟩ := at_T55 HR0.out x5_1 p324 q324
                have hw324_1 := hx324_1
                have hw324_0 := hx324_0
                cases e324
                replace hx324_0 := (HB.out.cell (World.block_lt_of_cell? w _ hx324_0)).trans hx324_0
                replace hx324_1 := (HB.out.cell (World.block_lt_of_cell? w _ hx324_1)).trans hx324_1
                replace p324 := eq_true p324
                replace q324 := eq_true q324
                have p325 : 0 ≤ (x5_1 : Int) := of_decide_eq_true (by first | (with_reducible assumption) | assumption)
                have q325 : x5_1 < (l1.length : Int) := of_decide_eq_true (by first | (with_reducible assumption) | assumption)
                obtain ⟨ad325, e325, hx325_0, hx325_1⟩ := at_T55 HR1.out x5_1 p325 q325
                have hw325_1 := hx325_1
                have hw325_0 := hx325_0
                cases e325
                replace hx325_0 := (HB.out.cell (World.block_lt_of_cell? w _ hx325_0)).trans hx325_0
                replace hx325_1 := (HB.out.cell (World.block_lt_of_cell? w _ hx325_1)).trans hx325_1
                replace p325 := eq_true p325
                replace q325 := eq_true q325
                refine start_ (n := 10) (S := fun w' => w'.cell? (ad324.add ((x5_1).toNat * 2)) = some (.int .i64 ((rd_T55 l0 x5_1).f0)) ∧ w'.cell? ⟨(ad324.add ((x5_1).toNat * 2)).block, (ad324.add ((x5_1).toNat * 2)).off + 1, none⟩ = some (.int .i64 ((rd_T55 l0 x5_1).f1)) ∧ w'.cell? (ad325.add ((x5_1).toNat * 2)) = some (.int .i64 ((rd_T55 l1 x5_1).f0)) ∧ w'.cell? ⟨(ad325.add ((x5_1).toNat * 2)).block, (ad325.add ((x5_1).toNat * 2)).off + 1, none⟩ = some (.int .i64 ((rd_T55 l1 x5_1).f1))) (ds := []) #[false, false, false, false, false, false, false, false, false, false] (by kernel_rfl) rfl rfl ⟨((HB.out.cell (World.block_lt_of_cell? w _ hw324_0)).trans hw324_0), ((HB.out.cell (World.block_lt_of_cell? w _ hw324_1)).trans hw324_1), ((HB.out.cell (World.block_lt_of_cell? w _ hw325_0)).trans hw325_0), ((HB.out.cell (World.block_lt_of_cell? w _ hw325_1)).trans hw325_1)⟩ (fun hHeld => ?_); refine with_tabW laws_eqSlotS.tab6 laws_eqSlotS.bits6 (fun HT_ HW_ => ?_)
                generalize wr.drew = w11 at HB hx324_0 hx324_1 hx325_0 hx325_1 hHeld ⊢
                refine pure_ (i := 0) (N := some 17) (v := ?_) (a' := ?_) #[true, false, false, false, false, false, false, false, false, false] rfl rfl (any_of HT_.out (by kernel_rfl)) (fun _ _ _ h => h) (Or.inl ⟨by rfl, ?_⟩) ?_ ?_
                rotate_left
                · intro w'
                  go_simp
                  with_reducible rfl
                rotate_left
                · simp only [Act.put, List.setIfInBounds_toArray, List.set_cons_zero, List.set_cons_succ, i64_w, i32_w]
                  rfl
                refine pure_ (i := 1) (N := some 18) (v := ?_) (a' := ?_) #[true, true, false, false, false, false, false, false, false, false] rfl rfl (any_of HT_.out (by kernel_rfl)) (fun _ _ _ h => h) (Or.inl ⟨by rfl, ?_⟩) ?_ ?_
                rotate_left
                · intro w'
                  go_simp
                  with_reducible rfl
                rotate_left
                · simp only [Act.put, List.setIfInBounds_toArray, List.set_cons_zero, List.set_cons_succ, i64_w, i32_w]
                  rfl
                refine pure_ (i := 2) (N := some 19) (v := ?_) (a' := ?_) #[true, true, true, false, false, false, false, false, false, false] rfl rfl (any_of HT_.out (by kernel_rfl)) (fun _ _ _ h => h) (Or.inl ⟨by rfl, ?_⟩) ?_ ?_
                rotate_left
                · intro w'
                  go_simp
                  with_reducible rfl
                rotate_left
                · simp only [Act.put, List.setIfInBounds_toArray, List.set_cons_zero, List.set_cons_succ, i64_w, i32_w]
                  rfl
                refine pure_ (i := 4) (N := some 21) (v := ?_) (a' := ?_) #[true, true, true, false, true, false, false, false, false, false] rfl rfl (any_of HT_.out (by kernel_rfl)) (fun _ _ _ h => h) (Or.inl ⟨by rfl, ?_⟩) ?_ ?_
                rotate_left
                · intro w'
                  go_simp
                  with_reducible rfl
                rotate_left
                · simp only [Act.put, List.setIfInBounds_toArray, List.set_cons_zero, List.set_cons_succ, i64_w, i32_w]
                  rfl
                refine pure_ (i := 5) (N := some 22) (v := ?_) (a' := ?_) #[true, true, true, false, true, true, false, false, false, false] rfl rfl (any_of HT_.out (by kernel_rfl)) (fun _ _ _ h => h) (Or.inl ⟨by rfl, ?_⟩) ?_ ?_
                rotate_left
                · intro w'
                  go_simp
                  with_reducible rfl
                rotate_left
                · simp only [Act.put, List.setIfInBounds_toArray, List.set_cons_zero, List.set_cons_succ, i64_w, i32_w]
                  rfl
                refine pure_ (i := 6) (N := some 23) (v := ?_) (a' := ?_) #[true, true, true, false, true, true, true, false, false, false] rfl rfl (any_of HT_.out (by kernel_rfl)) (fun _ _ _ h => h) (Or.inl ⟨by rfl, ?_⟩) ?_ ?_
                rotate_left
                · intro w'
                  go_simp
                  with_reducible rfl
                rotate_left
                · simp only [Act.put, List.setIfInBounds_toArray, List.set_cons_zero, List.set_cons_succ, i64_w, i32_w]
                  rfl
                refine take_ (i := 3) (N := some 20) (v := ?_) (a' := ?_) #[true, true, true, true, true, true, true, false, false, false] rfl rfl (take_ofW HT_.out HW_.out (by kernel_rfl)) (fun _ _ _ h => h) (Or.inl ⟨by rfl, ?_⟩) hHeld ?_ ?_
                rotate_left
                · rintro w' ⟨s0, s1, s2, s3⟩
                  go_simp
                  with_reducible rfl
                rotate_left
                · simp only [Act.put, List.setIfInBounds_toArray, List.set_cons_zero, List.set_cons_succ, i64_w, i32_w]
                  rfl
                refine take_ (i := 7) (N := some 24) (v := ?_) (a' := ?_) #[true, true, true, true, true, true, true, true, false, false] rfl rfl (take_ofW HT_.out HW_.out (by kernel_rfl)) (fun _ _ _ h => h) (Or.inl ⟨by rfl, ?_⟩) hHeld ?_ ?_
                rotate_left
                · rintro w' ⟨s0, s1, s2, s3⟩
                  go_simp
                  with_reducible rfl
                rotate_left
                · simp only [Act.put, List.setIfInBounds_toArray, List.set_cons_zero, List.set_cons_succ, i64_w, i32_w]
                  rfl
                refine one_ (i := 8) (N := some 25) #[true, true, true, true, true, true, true, true, true, false] rfl rfl (one_of HT_.out (by kernel_rfl)) (by decide) (fun K hK => ?_)
                refine goes_ Try.func89 (by kernel_rfl) rfl #[.agg #[.int .i64 ((rd_T55 l0 x5_1).f0), .int .i64 ((rd_T55 l0 x5_1).f1)], .agg #[.int .i64 ((rd_T55 l1 x5_1).f0), .int .i64 ((rd_T55 l1 x5_1).f1)]] (by rfl) rfl rfl arr_ ?_
                with_reducible refine (laws_eqSlot.calls ((rd_T55 l0 x5_1).f0) ((rd_T55 l0 x5_1).f1) ((rd_T55 l1 x5_1).f0) ((rd_T55 l1 x5_1).f1) false _ A7.out).mono ?_
                rintro e w12 ⟨rfl, hb⟩
                refine ⟨_, rfl, ?_⟩
                have n0_ := Aside0.mk (below_step (hb_ HB.out) hb)
                clear HB
                have HB := n0_
                clear n0_
                (try clear hb)
                (try clear hb2)
                (try clear hk)
                (try clear hi)
                refine hK.out _ _ ⟨((HB.out.cell (World.block_lt_of_cell? w _ hw324_0)).trans hw324_0), ((HB.out.cell (World.block_lt_of_cell? w _ hw324_1)).trans hw324_1), ((HB.out.cell (World.block_lt_of_cell? w _ hw325_0)).trans hw325_0), ((HB.out.cell (World.block_lt_of_cell? w _ hw325_1)).trans hw325_1)⟩ (fun hHeld => ?_)
                clear hK K
                refine norm_ (a' := ?_) ?_ ?_
                rotate_left
                · show Act.put _ (some 25) _ = _
                  simp only [Act.put, List.setIfInBounds_toArray, List.set_cons_zero, List.set_cons_succ, i64_w, i32_w]
                  rfl
                refine pure_ (i := 9) (N := some 26) (v := ?_) (a' := ?_) #[true, true, true, true, true, true, true, true, true, true] rfl rfl (any_of HT_.out (by kernel_rfl)) (fun _ _ _ h => h) (Or.inl ⟨by rfl, ?_⟩) ?_ ?_
                rotate_left
                · intro w'
                  go_simp
                  with_reducible rfl
                rotate_left
                · simp only [Act.put, List.setIfInBounds_toArray, List.set_cons_zero, List.set_cons_succ, i64_w, i32_w]
                  rfl
                refine done_ (done_of HT_.out (by kernel_rfl)) ?_
                try go_wp2
                go_ret
                exact ⟨er_, hb_ HB.out⟩
            · rw [if_neg c6] at H
              exact absurd H (by simp)
          · rw [if_neg c5] at H
            exact absurd H (by simp)
        · rw [if_neg c4] at H
          have c4b0 : decide (x5_1 < (l0.length : Int)) = false := decide_eq_false c4
          clear c4
          obtain rfl := Option.some.inj H
          go_wp2
          go_ret
          exact ⟨er_, hb_ HB.out⟩
  · rw [if_neg c3] at H
    have c3b0 : ((l0.length : Int) == (l1.length : Int)) = false := beq_eq_false_iff_ne.mpr c3
    have c3b1 : ((l0.length : Int) != (l1.length : Int)) = true := bne_iff_ne.mpr c3
    have c3b2 : (l0.length == l1.length) = false := by first | simpa using c3 | (simp at c3 ⊢; omega)
    obtain rfl := Option.some.inj H
    go_enter Try.func50, Try.ntmps50
    go_wp2
    go_ret
    exact ⟨er_, hb_ HB.out⟩
def laws_eqPlan.f (k : Nat) (a0_0 : Int) (a0_1 : Int) (l0_2 : List (S55)) (a1_0 : Int) (a1_1 : Int) (l1_2 : List (S55)) : Option (Bool) := if a0_0 = a1_0 then (if a0_1 = a1_1 then ((laws_eqSlotS.f k l0_2 l1_2).bind fun t329 => (if t329 = true then (some true) else (some false))) else (some false)) else (some false)
theorem laws_eqPlan.mono : ∀ a0 a1 a2 a3 a4 a5 k, LeO (laws_eqPlan.f k a0 a1 a2 a3 a4 a5) (laws_eqPlan.f (k + 1) a0 a1 a2 a3 a4 a5) := by
  intro a0 a1 a2 a3 a4 a5 k
  unfold laws_eqPlan.f
  repeat' first
      | (with_reducible exact laws_eqSlotS.mono _ _ _)
      | (with_reducible exact LeO.refl _)
      | (with_reducible exact LeO.none _)
      | (with_reducible refine LeO.ite ?_ ?_)
      | (with_reducible refine LeO.bind ?_ (fun _ => ?_))
      | exact laws_eqSlotS.mono _ _ _
      | exact LeO.none _
      | refine LeO.ite ?_ ?_
      | refine LeO.bind ?_ (fun _ => ?_)
set_option maxHeartbeats 8000000 in
set_option maxRecDepth 100000 in
theorem laws_eqPlan.calls (k : Nat) (a0_0 : Int) (a0_1 : Int) (A0_2 : Option Addr) (c0_2 : Nat) (l0_2 : List (S55)) (a1_0 : Int) (a1_1 : Int) (A1_2 : Option Addr) (c1_2 : Nat) (l1_2 : List (S55)) (r : Bool) (w : World) (hr0_2 : Kd.C k55 w A0_2 l0_2.length l0_2) (hc0_2 : l0_2.length ≤ c0_2) (hr1_2 : Kd.C k55 w A1_2 l1_2.length l1_2) (hc1_2 : l1_2.length ≤ c1_2) (h : laws_eqPlan.f k a0_0 a0_1 l0_2 a1_0 a1_1 l1_2 = some r) :
    Calls Try.prog 15 #[.agg #[.int .i64 a0_0, .int .i64 a0_1, .slice A0_2 l0_2.length c0_2], .agg #[.int .i64 a1_0, .int .i64 a1_1, .slice A1_2 l1_2.length c1_2]] w fun e w' => e = .returned (.bool r) ∧ Below w.heap.size w w' := by
  have hu38 := Try.underlying38
  have HR0_2 := Aside0.mk hr0_2
  have HC0_2 := Aside0.mk hc0_2
  clear hr0_2 hc0_2
  have HR1_2 := Aside0.mk hr1_2
  have HC1_2 := Aside0.mk hc1_2
  clear hr1_2 hc1_2
  have HB := Aside0.mk (Below.refl w.heap.size w)
  have H : (if a0_0 = a1_0 then (if a0_1 = a1_1 then ((laws_eqSlotS.f k l0_2 l1_2).bind fun t329 => (if t329 = true then (some true) else (some false))) else (some false)) else (some false)) = some r := h
  clear h
  by_cases c3 : a0_0 = a1_0
  · rw [if_pos c3] at H
    have c3b0 : (a0_0 == a1_0) = true := beq_iff_eq.mpr c3
    have c3b1 : (a0_0 != a1_0) = false := bne_eq_false_iff_eq.mpr c3
    clear c3
    by_cases c4 : a0_1 = a1_1
    · rw [if_pos c4] at H
      have c4b0 : (a0_1 == a1_1) = true := beq_iff_eq.mpr c4
      have c4b1 : (a0_1 != a1_1) = false := bne_eq_false_iff_eq.mpr c4
      clear c4
      replace H := Option.bind_eq_some_iff.mp H
      obtain ⟨t329, A50, H⟩ := H
      replace H : (if t329 = true then (some true) else (some false)) = some r := H
      have A5 := Aside0.mk A50
      clear A50
      by_cases c6 : t329 = true
      · subst c6
        have H1 : (some true) = some r := by rw [if_pos rfl] at H; exact H
        clear H
        have H := H1
        clear H1
        obtain rfl := Option.some.inj H
        go_enter Try.func15, Try.ntmps15
        go_wp2_with (first | ((with_reducible refine gate_dst (N := 2) rfl ?_); refine box_event ?hg (N := 2) ?hd (cs := #[.int .i64 a0_0, .int .i64 a0_1, .slice A0_2 l0_2.length c0_2]) (t := 38) ?hr ?_; (case hd => rfl); (case hg => rfl); (case hr => first | (go_simp; done) | (go_simp; rfl)); intro gb327 hg w7 hbox hb; have n0_ := Aside0.mk (below_step (hb_ HB.out) hb); have n1_ := Aside0.mk (hbox); have n2_ := Aside0.mk ((by rw [hg]; exact (below_size (hb_ HB.out)) : w.heap.size ≤ gb327)); have n3_ := Aside0.mk ((by rw [hg]; exact (below_size (hb_ HB.out)) : w.heap.size ≤ gb327)); clear HB; have HB := n0_; have BK327 := n1_; have GW327 := n2_; have GE327 := n3_; clear n0_ n1_ n2_ n3_; clear hb hbox hg) | ((with_reducible refine gate_dst (N := 3) rfl ?_); refine box_event ?hg (N := 3) ?hd (cs := #[.int .i64 a1_0, .int .i64 a1_1, .slice A1_2 l1_2.length c1_2]) (t := 38) ?hr ?_; (case hd => rfl); (case hg => rfl); (case hr => first | (go_simp; done) | (go_simp; rfl)); intro gb328 hg w8 hbox hb; have n0_ := Aside0.mk (bb_ BK327.out hb); have n1_ := Aside0.mk (below_step (hb1_ HB.out GE327.out) hb); have n2_ := Aside0.mk (hbox); have n3_ := Aside0.mk ((by rw [hg]; exact (below_size (hb1_ HB.out GE327.out)) : w.heap.size ≤ gb328)); have n4_ := Aside0.mk ((by rw [hg]; exact (below_size (hb1_ HB.out GE327.out)) : w.heap.size ≤ gb328)); have n5_ := Aside0.mk ((bl_ hg BK327.out : gb327 ≠ gb328)); have n6_ := Aside0.mk ((bg_ hg BK327.out : gb328 ≠ gb327)); clear BK327; clear HB; have BK327 := n0_; have HB := n1_; have BK328 := n2_; have GW328 := n3_; have GE328 := n4_; have NB327_328 := n5_; have NB328_327 := n6_; clear n0_ n1_ n2_ n3_ n4_ n5_ n6_; clear hb hbox hg; have hnb9 := NB327_328.out; have hnc9 := NB328_327.out; have hcz10_0 := bc_ BK327.out 0 (.int .i64 a0_0) rfl; have hcz10_1 := bc_ BK327.out 1 (.int .i64 a0_1) rfl; have hcz10_2 := bc_ BK327.out 2 (.slice A0_2 l0_2.length c0_2) rfl; have hfz10_0 := blk_frozen BK327.out 0; have hfz10_1 := blk_frozen BK327.out 1; have hfz10_2 := blk_frozen BK327.out 2; have hcz11_0 := bc_ BK328.out 0 (.int .i64 a1_0) rfl; have hcz11_1 := bc_ BK328.out 1 (.int .i64 a1_1) rfl; have hcz11_2 := bc_ BK328.out 2 (.slice A1_2 l1_2.length c1_2) rfl; have hfz11_0 := blk_frozen BK328.out 0; have hfz11_1 := blk_frozen BK328.out 1; have hfz11_2 := blk_frozen BK328.out 2) | ((with_reducible refine gate_callee (f := 50) rfl ?_); refine goesL_ (some 19) rfl rfl Try.func50 (by kernel_rfl) rfl #[.slice A0_2 l0_2.length c0_2, .slice A1_2 l1_2.length c1_2] rfl arr_ ?_; (with_reducible refine (laws_eqSlotS.calls k _ _ l0_2 _ _ l1_2 true _ ?side1 ?side2 ?side3 ?side4 A5.out).mono ?_); (case side1 => exact kc_ (Kd.C_below HR0_2.out HB.out)); (case side2 => exact HC0_2.out); (case side3 => exact kc_ (Kd.C_below HR1_2.out HB.out)); (case side4 => exact HC1_2.out); rintro e w12 ⟨rfl, hb⟩; refine ⟨_, rfl, ?_⟩; have n0_ := Aside0.mk (bb_ BK327.out hb); have n1_ := Aside0.mk (bb_ BK328.out hb); have n2_ := Aside0.mk (below_step (hb2_ HB.out GE327.out GE328.out) hb); clear BK327; clear BK328; clear HB; have BK327 := n0_; have BK328 := n1_; have HB := n2_; clear n0_ n1_ n2_; (try clear hb); (try clear hb2); (try clear hk); (try clear hi)))
        go_ret
        exact ⟨er_, hb2_ HB.out GE327.out GE328.out⟩
      · replace c6 := Bool.eq_false_iff.mpr c6
        subst c6
        have H1 : (some false) = some r := by rw [if_neg (show ¬ (false = true) by decide)] at H; exact H
        clear H
        have H := H1
        clear H1
        obtain rfl := Option.some.inj H
        go_enter Try.func15, Try.ntmps15
        go_wp2_with (first | ((with_reducible refine gate_dst (N := 2) rfl ?_); refine box_event ?hg (N := 2) ?hd (cs := #[.int .i64 a0_0, .int .i64 a0_1, .slice A0_2 l0_2.length c0_2]) (t := 38) ?hr ?_; (case hd => rfl); (case hg => rfl); (case hr => first | (go_simp; done) | (go_simp; rfl)); intro gb327 hg w13 hbox hb; have n0_ := Aside0.mk (below_step (hb_ HB.out) hb); have n1_ := Aside0.mk (hbox); have n2_ := Aside0.mk ((by rw [hg]; exact (below_size (hb_ HB.out)) : w.heap.size ≤ gb327)); have n3_ := Aside0.mk ((by rw [hg]; exact (below_size (hb_ HB.out)) : w.heap.size ≤ gb327)); clear HB; have HB := n0_; have BK327 := n1_; have GW327 := n2_; have GE327 := n3_; clear n0_ n1_ n2_ n3_; clear hb hbox hg) | ((with_reducible refine gate_dst (N := 3) rfl ?_); refine box_event ?hg (N := 3) ?hd (cs := #[.int .i64 a1_0, .int .i64 a1_1, .slice A1_2 l1_2.length c1_2]) (t := 38) ?hr ?_; (case hd => rfl); (case hg => rfl); (case hr => first | (go_simp; done) | (go_simp; rfl)); intro gb328 hg w14 hbox hb; have n0_ := Aside0.mk (bb_ BK327.out hb); have n1_ := Aside0.mk (below_step (hb1_ HB.out GE327.out) hb); have n2_ := Aside0.mk (hbox); have n3_ := Aside0.mk ((by rw [hg]; exact (below_size (hb1_ HB.out GE327.out)) : w.heap.size ≤ gb328)); have n4_ := Aside0.mk ((by rw [hg]; exact (below_size (hb1_ HB.out GE327.out)) : w.heap.size ≤ gb328)); have n5_ := Aside0.mk ((bl_ hg BK327.out : gb327 ≠ gb328)); have n6_ := Aside0.mk ((bg_ hg BK327.out : gb328 ≠ gb327)); clear BK327; clear HB; have BK327 := n0_; have HB := n1_; have BK328 := n2_; have GW328 := n3_; have GE328 := n4_; have NB327_328 := n5_; have NB328_327 := n6_; clear n0_ n1_ n2_ n3_ n4_ n5_ n6_; clear hb hbox hg; have hnb15 := NB327_328.out; have hnc15 := NB328_327.out; have hcz16_0 := bc_ BK327.out 0 (.int .i64 a0_0) rfl; have hcz16_1 := bc_ BK327.out 1 (.int .i64 a0_1) rfl; have hcz16_2 := bc_ BK327.out 2 (.slice A0_2 l0_2.length c0_2) rfl; have hfz16_0 := blk_frozen BK327.out 0; have hfz16_1 := blk_frozen BK327.out 1; have hfz16_2 := blk_frozen BK327.out 2; have hcz17_0 := bc_ BK328.out 0 (.int .i64 a1_0) rfl; have hcz17_1 := bc_ BK328.out 1 (.int .i64 a1_1) rfl; have hcz17_2 := bc_ BK328.out 2 (.slice A1_2 l1_2.length c1_2) rfl; have hfz17_0 := blk_frozen BK328.out 0; have hfz17_1 := blk_frozen BK328.out 1; have hfz17_2 := blk_frozen BK328.out 2) | ((with_reducible refine gate_callee (f := 50) rfl ?_); refine goesL_ (some 19) rfl rfl Try.func50 (by kernel_rfl) rfl #[.slice A0_2 l0_2.length c0_2, .slice A1_2 l1_2.length c1_2] rfl arr_ ?_; (with_reducible refine (laws_eqSlotS.calls k _ _ l0_2 _ _ l1_2 false _ ?side1 ?side2 ?side3 ?side4 A5.out).mono ?_); (case side1 => exact kc_ (Kd.C_below HR0_2.out HB.out)); (case side2 => exact HC0_2.out); (case side3 => exact kc_ (Kd.C_below HR1_2.out HB.out)); (case side4 => exact HC1_2.out); rintro e w18 ⟨rfl, hb⟩; refine ⟨_, rfl, ?_⟩; have n0_ := Aside0.mk (bb_ BK327.out hb); have n1_ := Aside0.mk (bb_ BK328.out hb); have n2_ := Aside0.mk (below_step (hb2_ HB.out GE327.out GE328.out) hb); clear BK327; clear BK328; clear HB; have BK327 := n0_; have BK328 := n1_; have HB := n2_; clear n0_ n1_ n2_; (try clear hb); (try clear hb2); (try clear hk); (try clear hi)))
        go_ret
        exact ⟨er_, hb2_ HB.out GE327.out GE328.out⟩
    · rw [if_neg c4] at H
      have c4b0 : (a0_1 == a1_1) = false := beq_eq_false_iff_ne.mpr c4
      have c4b1 : (a0_1 != a1_1) = true := bne_iff_ne.mpr c4
      obtain rfl := Option.some.inj H
      go_enter Try.func15, Try.ntmps15
      go_wp2_with (first | ((with_reducible refine gate_dst (N := 2) rfl ?_); refine box_event ?hg (N := 2) ?hd (cs := #[.int .i64 a0_0, .int .i64 a0_1, .slice A0_2 l0_2.length c0_2]) (t := 38) ?hr ?_; (case hd => rfl); (case hg => rfl); (case hr => first | (go_simp; done) | (go_simp; rfl)); intro gb327 hg w19 hbox hb; have n0_ := Aside0.mk (below_step (hb_ HB.out) hb); have n1_ := Aside0.mk (hbox); have n2_ := Aside0.mk ((by rw [hg]; exact (below_size (hb_ HB.out)) : w.heap.size ≤ gb327)); have n3_ := Aside0.mk ((by rw [hg]; exact (below_size (hb_ HB.out)) : w.heap.size ≤ gb327)); clear HB; have HB := n0_; have BK327 := n1_; have GW327 := n2_; have GE327 := n3_; clear n0_ n1_ n2_ n3_; clear hb hbox hg) | ((with_reducible refine gate_dst (N := 3) rfl ?_); refine box_event ?hg (N := 3) ?hd (cs := #[.int .i64 a1_0, .int .i64 a1_1, .slice A1_2 l1_2.length c1_2]) (t := 38) ?hr ?_; (case hd => rfl); (case hg => rfl); (case hr => first | (go_simp; done) | (go_simp; rfl)); intro gb328 hg w20 hbox hb; have n0_ := Aside0.mk (bb_ BK327.out hb); have n1_ := Aside0.mk (below_step (hb1_ HB.out GE327.out) hb); have n2_ := Aside0.mk (hbox); have n3_ := Aside0.mk ((by rw [hg]; exact (below_size (hb1_ HB.out GE327.out)) : w.heap.size ≤ gb328)); have n4_ := Aside0.mk ((by rw [hg]; exact (below_size (hb1_ HB.out GE327.out)) : w.heap.size ≤ gb328)); have n5_ := Aside0.mk ((bl_ hg BK327.out : gb327 ≠ gb328)); have n6_ := Aside0.mk ((bg_ hg BK327.out : gb328 ≠ gb327)); clear BK327; clear HB; have BK327 := n0_; have HB := n1_; have BK328 := n2_; have GW328 := n3_; have GE328 := n4_; have NB327_328 := n5_; have NB328_327 := n6_; clear n0_ n1_ n2_ n3_ n4_ n5_ n6_; clear hb hbox hg; have hnb21 := NB327_328.out; have hnc21 := NB328_327.out; have hcz22_0 := bc_ BK327.out 0 (.int .i64 a0_0) rfl; have hcz22_1 := bc_ BK327.out 1 (.int .i64 a0_1) rfl; have hcz22_2 := bc_ BK327.out 2 (.slice A0_2 l0_2.length c0_2) rfl; have hfz22_0 := blk_frozen BK327.out 0; have hfz22_1 := blk_frozen BK327.out 1; have hfz22_2 := blk_frozen BK327.out 2; have hcz23_0 := bc_ BK328.out 0 (.int .i64 a1_0) rfl; have hcz23_1 := bc_ BK328.out 1 (.int .i64 a1_1) rfl; have hcz23_2 := bc_ BK328.out 2 (.slice A1_2 l1_2.length c1_2) rfl; have hfz23_0 := blk_frozen BK328.out 0; have hfz23_1 := blk_frozen BK328.out 1; have hfz23_2 := blk_frozen BK328.out 2))
      go_ret
      exact ⟨er_, hb2_ HB.out GE327.out GE328.out⟩
  · rw [if_neg c3] at H
    have c3b0 : (a0_0 == a1_0) = false := beq_eq_false_iff_ne.mpr c3
    have c3b1 : (a0_0 != a1_0) = true := bne_iff_ne.mpr c3
    obtain rfl := Option.some.inj H
    go_enter Try.func15, Try.ntmps15
    go_wp2_with (first | ((with_reducible refine gate_dst (N := 2) rfl ?_); refine box_event ?hg (N := 2) ?hd (cs := #[.int .i64 a0_0, .int .i64 a0_1, .slice A0_2 l0_2.length c0_2]) (t := 38) ?hr ?_; (case hd => rfl); (case hg => rfl); (case hr => first | (go_simp; done) | (go_simp; rfl)); intro gb327 hg w24 hbox hb; have n0_ := Aside0.mk (below_step (hb_ HB.out) hb); have n1_ := Aside0.mk (hbox); have n2_ := Aside0.mk ((by rw [hg]; exact (below_size (hb_ HB.out)) : w.heap.size ≤ gb327)); have n3_ := Aside0.mk ((by rw [hg]; exact (below_size (hb_ HB.out)) : w.heap.size ≤ gb327)); clear HB; have HB := n0_; have BK327 := n1_; have GW327 := n2_; have GE327 := n3_; clear n0_ n1_ n2_ n3_; clear hb hbox hg) | ((with_reducible refine gate_dst (N := 3) rfl ?_); refine box_event ?hg (N := 3) ?hd (cs := #[.int .i64 a1_0, .int .i64 a1_1, .slice A1_2 l1_2.length c1_2]) (t := 38) ?hr ?_; (case hd => rfl); (case hg => rfl); (case hr => first | (go_simp; done) | (go_simp; rfl)); intro gb328 hg w25 hbox hb; have n0_ := Aside0.mk (bb_ BK327.out hb); have n1_ := Aside0.mk (below_step (hb1_ HB.out GE327.out) hb); have n2_ := Aside0.mk (hbox); have n3_ := Aside0.mk ((by rw [hg]; exact (below_size (hb1_ HB.out GE327.out)) : w.heap.size ≤ gb328)); have n4_ := Aside0.mk ((by rw [hg]; exact (below_size (hb1_ HB.out GE327.out)) : w.heap.size ≤ gb328)); have n5_ := Aside0.mk ((bl_ hg BK327.out : gb327 ≠ gb328)); have n6_ := Aside0.mk ((bg_ hg BK327.out : gb328 ≠ gb327)); clear BK327; clear HB; have BK327 := n0_; have HB := n1_; have BK328 := n2_; have GW328 := n3_; have GE328 := n4_; have NB327_328 := n5_; have NB328_327 := n6_; clear n0_ n1_ n2_ n3_ n4_ n5_ n6_; clear hb hbox hg; have hnb26 := NB327_328.out; have hnc26 := NB328_327.out; have hcz27_0 := bc_ BK327.out 0 (.int .i64 a0_0) rfl; have hcz27_1 := bc_ BK327.out 1 (.int .i64 a0_1) rfl; have hcz27_2 := bc_ BK327.out 2 (.slice A0_2 l0_2.length c0_2) rfl; have hfz27_0 := blk_frozen BK327.out 0; have hfz27_1 := blk_frozen BK327.out 1; have hfz27_2 := blk_frozen BK327.out 2; have hcz28_0 := bc_ BK328.out 0 (.int .i64 a1_0) rfl; have hcz28_1 := bc_ BK328.out 1 (.int .i64 a1_1) rfl; have hcz28_2 := bc_ BK328.out 2 (.slice A1_2 l1_2.length c1_2) rfl; have hfz28_0 := blk_frozen BK328.out 0; have hfz28_1 := blk_frozen BK328.out 1; have hfz28_2 := blk_frozen BK328.out 2))
    go_ret
    exact ⟨er_, hb2_ HB.out GE327.out GE328.out⟩
end Go.Proofs.Ytejohmompmjhnaa.P
