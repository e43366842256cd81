/- Texts of the seat's proofs, part 3: functions of the program told as plain functions, with their contracts, and what is shown of them. No condition. -/
import Derived.Test.YtejohmompmjhnaaU
import Derived.Test.YtejohmompmjhnaaM1
import Derived.Test.YtejohmompmjhnaaM2
set_option linter.unusedVariables false
set_option linter.unusedSimpArgs false
namespace Go.Proofs.Ytejohmompmjhnaa.P
open Go.RowKit Go.Proofs.YtejohmompmjhnaaW.PrintWords Go.Proofs.YtejohmompmjhnaaW.PrintLast Go.Proofs.YtejohmompmjhnaaW.PrintMore
attribute [local go_sem] max2_int min2_int max_two min_two max_three min_three max_four min_four
set_option linter.unusedVariables false
set_option linter.unusedSimpArgs false
mutual
def spec_GateAsk.j0 : Nat → Bool → Int → Int → Bool → Int → Int → Int → Int → Int → Int → List (S55) → Option (Int × Int × Int)
  | 0, _, _, _, _, _, _, _, _, _, _, _ => none
  | k + 1, x1, x3, x5, x45, x181000, x181001, x182000, x182001, x183000, x183001, x183002 => if x45 = true then (some (0, 0, 1)) else ((spec_GateSpan.f k x181000 x181001 x182000 x182001 x3).bind fun bt192 => (if x1 = true then (spec_GateAsk.j1 k x5 (!bt192.2.2) x183000 x183001 x183002 bt192.1 bt192.2.1) else (spec_GateAsk.j1 k x5 true x183000 x183001 x183002 bt192.1 bt192.2.1)))
def spec_GateAsk.j1 : Nat → Int → Bool → Int → Int → List (S55) → Int → Int → Option (Int × Int × Int)
  | 0, _, _, _, _, _, _, _ => none
  | k + 1, x5, x58, x183000, x183001, x183002, x196000, x196001 => if x58 = true then (some (0, 0, 2)) else ((spec_InSlot.f k x183000 x183001 x183002 x5 x196000 x196001).bind fun bt196 => (if bt196.2.2 = true then (some (bt196.1, bt196.2.1, 0)) else (some (0, 0, 2))))
end
def spec_GateAsk.f (k : Nat) (a0_0 : Int) (a0_1 : Int) (a1 : Bool) (a2_0 : Int) (a2_1 : Int) (a3 : Int) (a4_0 : Int) (a4_1 : Int) (l4_2 : List (S55)) (a5 : Int) : Option (Int × Int × Int) := if a1 = true then ((spec_IvalOk.f a0_0 a0_1).bind fun t183 => (if t183 = true then ((spec_DriftOk.f a2_0 a2_1).bind fun t184 => (if t184 = true then ((spec_l1In.f a3 1 1000000000000).bind fun t185 => (if t185 = true then ((spec_PlanOk.f k a4_0 a4_1 l4_2).bind fun t186 => (if t186 = true then ((spec_l4Node.f a5).bind fun t187 => (spec_GateAsk.j0 k a1 a3 a5 (!t187) a0_0 a0_1 a2_0 a2_1 a4_0 a4_1 l4_2)) else (spec_GateAsk.j0 k a1 a3 a5 true a0_0 a0_1 a2_0 a2_1 a4_0 a4_1 l4_2))) else (spec_GateAsk.j0 k a1 a3 a5 true a0_0 a0_1 a2_0 a2_1 a4_0 a4_1 l4_2))) else (spec_GateAsk.j0 k a1 a3 a5 true a0_0 a0_1 a2_0 a2_1 a4_0 a4_1 l4_2))) else (spec_GateAsk.j0 k a1 a3 a5 true a0_0 a0_1 a2_0 a2_1 a4_0 a4_1 l4_2))) else ((spec_DriftOk.f a2_0 a2_1).bind fun t188 => (if t188 = true then ((spec_l1In.f a3 1 1000000000000).bind fun t189 => (if t189 = true then ((spec_PlanOk.f k a4_0 a4_1 l4_2).bind fun t190 => (if t190 = true then ((spec_l4Node.f a5).bind fun t191 => (spec_GateAsk.j0 k a1 a3 a5 (!t191) a0_0 a0_1 a2_0 a2_1 a4_0 a4_1 l4_2)) else (spec_GateAsk.j0 k a1 a3 a5 true a0_0 a0_1 a2_0 a2_1 a4_0 a4_1 l4_2))) else (spec_GateAsk.j0 k a1 a3 a5 true a0_0 a0_1 a2_0 a2_1 a4_0 a4_1 l4_2))) else (spec_GateAsk.j0 k a1 a3 a5 true a0_0 a0_1 a2_0 a2_1 a4_0 a4_1 l4_2)))
theorem spec_GateAsk.mono_l : ∀ k, (∀ y0 y1 y2 y3 y4 y5 y6 y7 y8 y9 y10, LeO (spec_GateAsk.j0 k y0 y1 y2 y3 y4 y5 y6 y7 y8 y9 y10) (spec_GateAsk.j0 (k + 1) y0 y1 y2 y3 y4 y5 y6 y7 y8 y9 y10)) ∧ (∀ y0 y1 y2 y3 y4 y5 y6, LeO (spec_GateAsk.j1 k y0 y1 y2 y3 y4 y5 y6) (spec_GateAsk.j1 (k + 1) y0 y1 y2 y3 y4 y5 y6))
  | 0 => ⟨fun _ _ _ _ _ _ _ _ _ _ _ r h => by simp [spec_GateAsk.j0] at h, fun _ _ _ _ _ _ _ r h => by simp [spec_GateAsk.j1] at h⟩
  | k + 1 => by
    obtain ⟨ih0, ih1⟩ := spec_GateAsk.mono_l k
    refine ⟨?_, ?_⟩
    · intro y0 y1 y2 y3 y4 y5 y6 y7 y8 y9 y10
      unfold spec_GateAsk.j0
      repeat' first
      | (with_reducible exact ih0 _ _ _ _ _ _ _ _ _ _ _)
      | (with_reducible exact ih1 _ _ _ _ _ _ _)
      | (with_reducible exact spec_GateSpan.mono _ _ _ _ _ _)
      | (with_reducible exact spec_InSlot.mono _ _ _ _ _ _ _)
      | (with_reducible exact spec_PlanOk.mono _ _ _ _)
      | (with_reducible exact LeO.refl _)
      | (with_reducible exact LeO.none _)
      | (with_reducible refine LeO.ite ?_ ?_)
      | (with_reducible refine LeO.bind ?_ (fun _ => ?_))
      | exact ih0 _ _ _ _ _ _ _ _ _ _ _
      | exact ih1 _ _ _ _ _ _ _
      | exact spec_GateSpan.mono _ _ _ _ _ _
      | exact spec_InSlot.mono _ _ _ _ _ _ _
      | exact spec_PlanOk.mono _ _ _ _
      | exact LeO.none _
      | refine LeO.ite ?_ ?_
      | refine LeO.bind ?_ (fun _ => ?_)
    · intro y0 y1 y2 y3 y4 y5 y6
      unfold spec_GateAsk.j1
      repeat' first
      | (with_reducible exact ih0 _ _ _ _ _ _ _ _ _ _ _)
      | (with_reducible exact ih1 _ _ _ _ _ _ _)
      | (with_reducible exact spec_GateSpan.mono _ _ _ _ _ _)
      | (with_reducible exact spec_InSlot.mono _ _ _ _ _ _ _)
      | (with_reducible exact spec_PlanOk.mono _ _ _ _)
      | (with_reducible exact LeO.refl _)
      | (with_reducible exact LeO.none _)
      | (with_reducible refine LeO.ite ?_ ?_)
      | (with_reducible refine LeO.bind ?_ (fun _ => ?_))
      | exact ih0 _ _ _ _ _ _ _ _ _ _ _
      | exact ih1 _ _ _ _ _ _ _
      | exact spec_GateSpan.mono _ _ _ _ _ _
      | exact spec_InSlot.mono _ _ _ _ _ _ _
      | exact spec_PlanOk.mono _ _ _ _
      | exact LeO.none _
      | refine LeO.ite ?_ ?_
      | refine LeO.bind ?_ (fun _ => ?_)
theorem spec_GateAsk.mono : ∀ a0 a1 a2 a3 a4 a5 a6 a7 a8 a9 k, LeO (spec_GateAsk.f k a0 a1 a2 a3 a4 a5 a6 a7 a8 a9) (spec_GateAsk.f (k + 1) a0 a1 a2 a3 a4 a5 a6 a7 a8 a9) := by
  intro a0 a1 a2 a3 a4 a5 a6 a7 a8 a9 k
  obtain ⟨ih0, ih1⟩ := spec_GateAsk.mono_l k
  unfold spec_GateAsk.f
  repeat' first
      | (with_reducible exact ih0 _ _ _ _ _ _ _ _ _ _ _)
      | (with_reducible exact ih1 _ _ _ _ _ _ _)
      | (with_reducible exact spec_GateSpan.mono _ _ _ _ _ _)
      | (with_reducible exact spec_InSlot.mono _ _ _ _ _ _ _)
      | (with_reducible exact spec_PlanOk.mono _ _ _ _)
      | (with_reducible exact LeO.refl _)
      | (with_reducible exact LeO.none _)
      | (with_reducible refine LeO.ite ?_ ?_)
      | (with_reducible refine LeO.bind ?_ (fun _ => ?_))
      | exact ih0 _ _ _ _ _ _ _ _ _ _ _
      | exact ih1 _ _ _ _ _ _ _
      | exact spec_GateSpan.mono _ _ _ _ _ _
      | exact spec_InSlot.mono _ _ _ _ _ _ _
      | exact spec_PlanOk.mono _ _ _ _
      | exact LeO.none _
      | refine LeO.ite ?_ ?_
      | refine LeO.bind ?_ (fun _ => ?_)
set_option maxHeartbeats 8000000 in
set_option maxRecDepth 100000 in
theorem spec_GateAsk.calls (k : Nat) (a0_0 : Int) (a0_1 : Int) (a1 : Bool) (a2_0 : Int) (a2_1 : Int) (a3 : Int) (a4_0 : Int) (a4_1 : Int) (A4_2 : Option Addr) (c4_2 : Nat) (l4_2 : List (S55)) (a5 : Int) (r1 : Int) (r2 : Int) (r3 : Int) (w : World) (hr4_2 : Kd.C k55 w A4_2 l4_2.length l4_2) (hc4_2 : l4_2.length ≤ c4_2) (h : spec_GateAsk.f k a0_0 a0_1 a1 a2_0 a2_1 a3 a4_0 a4_1 l4_2 a5 = some (r1, r2, r3)) :
    Calls Try.prog 10 #[.agg #[.int .i64 a0_0, .int .i64 a0_1], .bool a1, .agg #[.int .i64 a2_0, .int .i64 a2_1], .int .i64 a3, .agg #[.int .i64 a4_0, .int .i64 a4_1, .slice A4_2 l4_2.length c4_2], .int .i64 a5] w fun e w' => e = .returned (.tuple #[.int .i64 r1, .int .i64 r2, .int .i64 r3]) ∧ Below w.heap.size w w' := by
  have hu32 := Try.underlying32
  have hu34 := Try.underlying34
  have hu38 := Try.underlying38
  have HR4_2 := Aside0.mk hr4_2
  have HC4_2 := Aside0.mk hc4_2
  clear hr4_2 hc4_2
  have HB := Aside0.mk (Below.refl w.heap.size w)
  have H : (if a1 = true then ((spec_IvalOk.f a0_0 a0_1).bind fun t183 => (if t183 = true then ((spec_DriftOk.f a2_0 a2_1).bind fun t184 => (if t184 = true then ((spec_l1In.f a3 1 1000000000000).bind fun t185 => (if t185 = true then ((spec_PlanOk.f k a4_0 a4_1 l4_2).bind fun t186 => (if t186 = true then ((spec_l4Node.f a5).bind fun t187 => (spec_GateAsk.j0 k a1 a3 a5 (!t187) a0_0 a0_1 a2_0 a2_1 a4_0 a4_1 l4_2)) else (spec_GateAsk.j0 k a1 a3 a5 true a0_0 a0_1 a2_0 a2_1 a4_0 a4_1 l4_2))) else (spec_GateAsk.j0 k a1 a3 a5 true a0_0 a0_1 a2_0 a2_1 a4_0 a4_1 l4_2))) else (spec_GateAsk.j0 k a1 a3 a5 true a0_0 a0_1 a2_0 a2_1 a4_0 a4_1 l4_2))) else (spec_GateAsk.j0 k a1 a3 a5 true a0_0 a0_1 a2_0 a2_1 a4_0 a4_1 l4_2))) else ((spec_DriftOk.f a2_0 a2_1).bind fun t188 => (if t188 = true then ((spec_l1In.f a3 1 1000000000000).bind fun t189 => (if t189 = true then ((spec_PlanOk.f k a4_0 a4_1 l4_2).bind fun t190 => (if t190 = true then ((spec_l4Node.f a5).bind fun t191 => (spec_GateAsk.j0 k a1 a3 a5 (!t191) a0_0 a0_1 a2_0 a2_1 a4_0 a4_1 l4_2)) else (spec_GateAsk.j0 k a1 a3 a5 true a0_0 a0_1 a2_0 a2_1 a4_0 a4_1 l4_2))) else (spec_GateAsk.j0 k a1 a3 a5 true a0_0 a0_1 a2_0 a2_1 a4_0 a4_1 l4_2))) else (spec_GateAsk.j0 k a1 a3 a5 true a0_0 a0_1 a2_0 a2_1 a4_0 a4_1 l4_2)))) = some (r1, r2, r3) := h
  clear h
  have HC7 := Aside0.mk H
  clear H
  go_enter Try.func10, Try.ntmps10
  go_upto_region 1 with (first | ((with_reducible refine gate_dst (N := 6) rfl ?_); refine box_event ?hg (N := 6) ?hd (cs := #[.int .i64 a0_0, .int .i64 a0_1]) (t := 32) ?hr ?_; (case hd => rfl); (case hg => rfl); (case hr => first | (go_simp; done) | (go_simp; rfl)); intro gb180 hg w8 hbox hb; have n0_ := Aside0.mk (below_step (hb_ HB.out) hb); have n1_ := Aside0.mk (hbox); have n2_ := Aside0.mk ((by rw [hg]; exact (below_size (hb_ HB.out)) : w.heap.size ≤ gb180)); have n3_ := Aside0.mk ((by rw [hg]; exact (below_size (hb_ HB.out)) : w.heap.size ≤ gb180)); clear HB; have HB := n0_; have BK180 := n1_; have GW180 := n2_; have GE180 := n3_; clear n0_ n1_ n2_ n3_; clear hb hbox hg) | ((with_reducible refine gate_dst (N := 8) rfl ?_); refine box_event ?hg (N := 8) ?hd (cs := #[.int .i64 a2_0, .int .i64 a2_1]) (t := 34) ?hr ?_; (case hd => rfl); (case hg => rfl); (case hr => first | (go_simp; done) | (go_simp; rfl)); intro gb181 hg w9 hbox hb; have n0_ := Aside0.mk (bb_ BK180.out hb); have n1_ := Aside0.mk (below_step (hb1_ HB.out GE180.out) hb); have n2_ := Aside0.mk (hbox); have n3_ := Aside0.mk ((by rw [hg]; exact (below_size (hb1_ HB.out GE180.out)) : w.heap.size ≤ gb181)); have n4_ := Aside0.mk ((by rw [hg]; exact (below_size (hb1_ HB.out GE180.out)) : w.heap.size ≤ gb181)); have n5_ := Aside0.mk ((bl_ hg BK180.out : gb180 ≠ gb181)); have n6_ := Aside0.mk ((bg_ hg BK180.out : gb181 ≠ gb180)); clear BK180; clear HB; have BK180 := n0_; have HB := n1_; have BK181 := n2_; have GW181 := n3_; have GE181 := n4_; have NB180_181 := n5_; have NB181_180 := n6_; clear n0_ n1_ n2_ n3_ n4_ n5_ n6_; clear hb hbox hg) | ((with_reducible refine gate_dst (N := 10) rfl ?_); refine box_event ?hg (N := 10) ?hd (cs := #[.int .i64 a4_0, .int .i64 a4_1, .slice A4_2 l4_2.length c4_2]) (t := 38) ?hr ?_; (case hd => rfl); (case hg => rfl); (case hr => first | (go_simp; done) | (go_simp; rfl)); intro gb182 hg w10 hbox hb; have n0_ := Aside0.mk (bb_ BK180.out hb); have n1_ := Aside0.mk (bb_ BK181.out hb); have n2_ := Aside0.mk (below_step (hb2_ HB.out GE180.out GE181.out) hb); have n3_ := Aside0.mk (hbox); have n4_ := Aside0.mk ((by rw [hg]; exact (below_size (hb2_ HB.out GE180.out GE181.out)) : w.heap.size ≤ gb182)); have n5_ := Aside0.mk ((by rw [hg]; exact (below_size (hb2_ HB.out GE180.out GE181.out)) : w.heap.size ≤ gb182)); have n6_ := Aside0.mk ((bl_ hg BK180.out : gb180 ≠ gb182)); have n7_ := Aside0.mk ((bg_ hg BK180.out : gb182 ≠ gb180)); have n8_ := Aside0.mk ((bl_ hg BK181.out : gb181 ≠ gb182)); have n9_ := Aside0.mk ((bg_ hg BK181.out : gb182 ≠ gb181)); clear BK180; clear BK181; clear HB; have BK180 := n0_; have BK181 := n1_; have HB := n2_; have BK182 := n3_; have GW182 := n4_; have GE182 := n5_; have NB180_182 := n6_; have NB182_180 := n7_; have NB181_182 := n8_; have NB182_181 := n9_; clear n0_ n1_ n2_ n3_ n4_ n5_ n6_ n7_ n8_ n9_; clear hb hbox hg))
  (try simp only [Act.put, List.setIfInBounds_toArray, List.set_cons_zero, List.set_cons_succ])
  go_cut [45] (fun v45 wc => ∃ (kq : Nat) (x45_6 : Bool), v45 = .bool x45_6 ∧ Aside0 (spec_GateAsk.j0 kq a1 a3 a5 x45_6 a0_0 a0_1 a2_0 a2_1 a4_0 a4_1 l4_2 = some (r1, r2, r3)) ∧ Aside0 (kq ≤ k) ∧ Aside0 (wc.heap[gb180]? = some (.cells #[.int .i64 a0_0, .int .i64 a0_1] 32 (0, 0))) ∧ Aside0 (wc.heap[gb181]? = some (.cells #[.int .i64 a2_0, .int .i64 a2_1] 34 (0, 0))) ∧ Aside0 (wc.heap[gb182]? = some (.cells #[.int .i64 a4_0, .int .i64 a4_1, (.slice A4_2 l4_2.length c4_2)] 38 (0, 0))) ∧ Aside0 (Below w.heap.size w wc))
  case first =>
    have H := HC7.out
    clear HC7
    by_cases c11 : a1 = true
    · subst c11
      have H1 : ((spec_IvalOk.f a0_0 a0_1).bind fun t183 => (if t183 = true then ((spec_DriftOk.f a2_0 a2_1).bind fun t184 => (if t184 = true then ((spec_l1In.f a3 1 1000000000000).bind fun t185 => (if t185 = true then ((spec_PlanOk.f k a4_0 a4_1 l4_2).bind fun t186 => (if t186 = true then ((spec_l4Node.f a5).bind fun t187 => (spec_GateAsk.j0 k true a3 a5 (!t187) a0_0 a0_1 a2_0 a2_1 a4_0 a4_1 l4_2)) else (spec_GateAsk.j0 k true a3 a5 true a0_0 a0_1 a2_0 a2_1 a4_0 a4_1 l4_2))) else (spec_GateAsk.j0 k true a3 a5 true a0_0 a0_1 a2_0 a2_1 a4_0 a4_1 l4_2))) else (spec_GateAsk.j0 k true a3 a5 true a0_0 a0_1 a2_0 a2_1 a4_0 a4_1 l4_2))) else (spec_GateAsk.j0 k true a3 a5 true a0_0 a0_1 a2_0 a2_1 a4_0 a4_1 l4_2))) = some (r1, r2, r3) := by rw [if_pos rfl] at H; exact H
      clear H
      have H := H1
      clear H1
      replace H := Option.bind_eq_some_iff.mp H
      obtain ⟨t183, A120, H⟩ := H
      replace H : (if t183 = true then ((spec_DriftOk.f a2_0 a2_1).bind fun t184 => (if t184 = true then ((spec_l1In.f a3 1 1000000000000).bind fun t185 => (if t185 = true then ((spec_PlanOk.f k a4_0 a4_1 l4_2).bind fun t186 => (if t186 = true then ((spec_l4Node.f a5).bind fun t187 => (spec_GateAsk.j0 k true a3 a5 (!t187) a0_0 a0_1 a2_0 a2_1 a4_0 a4_1 l4_2)) else (spec_GateAsk.j0 k true a3 a5 true a0_0 a0_1 a2_0 a2_1 a4_0 a4_1 l4_2))) else (spec_GateAsk.j0 k true a3 a5 true a0_0 a0_1 a2_0 a2_1 a4_0 a4_1 l4_2))) else (spec_GateAsk.j0 k true a3 a5 true a0_0 a0_1 a2_0 a2_1 a4_0 a4_1 l4_2))) else (spec_GateAsk.j0 k true a3 a5 true a0_0 a0_1 a2_0 a2_1 a4_0 a4_1 l4_2)) = some (r1, r2, r3) := H
      have A12 := Aside0.mk A120
      clear A120
      by_cases c13 : t183 = true
      · subst c13
        have H1 : ((spec_DriftOk.f a2_0 a2_1).bind fun t184 => (if t184 = true then ((spec_l1In.f a3 1 1000000000000).bind fun t185 => (if t185 = true then ((spec_PlanOk.f k a4_0 a4_1 l4_2).bind fun t186 => (if t186 = true then ((spec_l4Node.f a5).bind fun t187 => (spec_GateAsk.j0 k true a3 a5 (!t187) a0_0 a0_1 a2_0 a2_1 a4_0 a4_1 l4_2)) else (spec_GateAsk.j0 k true a3 a5 true a0_0 a0_1 a2_0 a2_1 a4_0 a4_1 l4_2))) else (spec_GateAsk.j0 k true a3 a5 true a0_0 a0_1 a2_0 a2_1 a4_0 a4_1 l4_2))) else (spec_GateAsk.j0 k true a3 a5 true a0_0 a0_1 a2_0 a2_1 a4_0 a4_1 l4_2))) = some (r1, r2, r3) := by rw [if_pos rfl] at H; exact H
        clear H
        have H := H1
        clear H1
        replace H := Option.bind_eq_some_iff.mp H
        obtain ⟨t184, A140, H⟩ := H
        replace H : (if t184 = true then ((spec_l1In.f a3 1 1000000000000).bind fun t185 => (if t185 = true then ((spec_PlanOk.f k a4_0 a4_1 l4_2).bind fun t186 => (if t186 = true then ((spec_l4Node.f a5).bind fun t187 => (spec_GateAsk.j0 k true a3 a5 (!t187) a0_0 a0_1 a2_0 a2_1 a4_0 a4_1 l4_2)) else (spec_GateAsk.j0 k true a3 a5 true a0_0 a0_1 a2_0 a2_1 a4_0 a4_1 l4_2))) else (spec_GateAsk.j0 k true a3 a5 true a0_0 a0_1 a2_0 a2_1 a4_0 a4_1 l4_2))) else (spec_GateAsk.j0 k true a3 a5 true a0_0 a0_1 a2_0 a2_1 a4_0 a4_1 l4_2)) = some (r1, r2, r3) := H
        have A14 := Aside0.mk A140
        clear A140
        by_cases c15 : t184 = true
        · subst c15
          have H1 : ((spec_l1In.f a3 1 1000000000000).bind fun t185 => (if t185 = true then ((spec_PlanOk.f k a4_0 a4_1 l4_2).bind fun t186 => (if t186 = true then ((spec_l4Node.f a5).bind fun t187 => (spec_GateAsk.j0 k true a3 a5 (!t187) a0_0 a0_1 a2_0 a2_1 a4_0 a4_1 l4_2)) else (spec_GateAsk.j0 k true a3 a5 true a0_0 a0_1 a2_0 a2_1 a4_0 a4_1 l4_2))) else (spec_GateAsk.j0 k true a3 a5 true a0_0 a0_1 a2_0 a2_1 a4_0 a4_1 l4_2))) = some (r1, r2, r3) := by rw [if_pos rfl] at H; exact H
          clear H
          have H := H1
          clear H1
          replace H := Option.bind_eq_some_iff.mp H
          obtain ⟨t185, A160, H⟩ := H
          replace H : (if t185 = true then ((spec_PlanOk.f k a4_0 a4_1 l4_2).bind fun t186 => (if t186 = true then ((spec_l4Node.f a5).bind fun t187 => (spec_GateAsk.j0 k true a3 a5 (!t187) a0_0 a0_1 a2_0 a2_1 a4_0 a4_1 l4_2)) else (spec_GateAsk.j0 k true a3 a5 true a0_0 a0_1 a2_0 a2_1 a4_0 a4_1 l4_2))) else (spec_GateAsk.j0 k true a3 a5 true a0_0 a0_1 a2_0 a2_1 a4_0 a4_1 l4_2)) = some (r1, r2, r3) := H
          have A16 := Aside0.mk A160
          clear A160
          by_cases c17 : t185 = true
          · subst c17
            have H1 : ((spec_PlanOk.f k a4_0 a4_1 l4_2).bind fun t186 => (if t186 = true then ((spec_l4Node.f a5).bind fun t187 => (spec_GateAsk.j0 k true a3 a5 (!t187) a0_0 a0_1 a2_0 a2_1 a4_0 a4_1 l4_2)) else (spec_GateAsk.j0 k true a3 a5 true a0_0 a0_1 a2_0 a2_1 a4_0 a4_1 l4_2))) = some (r1, r2, r3) := by rw [if_pos rfl] at H; exact H
            clear H
            have H := H1
            clear H1
            replace H := Option.bind_eq_some_iff.mp H
            obtain ⟨t186, A180, H⟩ := H
            replace H : (if t186 = true then ((spec_l4Node.f a5).bind fun t187 => (spec_GateAsk.j0 k true a3 a5 (!t187) a0_0 a0_1 a2_0 a2_1 a4_0 a4_1 l4_2)) else (spec_GateAsk.j0 k true a3 a5 true a0_0 a0_1 a2_0 a2_1 a4_0 a4_1 l4_2)) = some (r1, r2, r3) := H
            have A18 := Aside0.mk A180
            clear A180
            by_cases c19 : t186 = true
            · subst c19
              have H1 : ((spec_l4Node.f a5).bind fun t187 => (spec_GateAsk.j0 k true a3 a5 (!t187) a0_0 a0_1 a2_0 a2_1 a4_0 a4_1 l4_2)) = some (r1, r2, r3) := by rw [if_pos rfl] at H; exact H
              clear H
              have H := H1
              clear H1
              replace H := Option.bind_eq_some_iff.mp H
              obtain ⟨t187, A200, H⟩ := H
              replace H : (spec_GateAsk.j0 k true a3 a5 (!t187) a0_0 a0_1 a2_0 a2_1 a4_0 a4_1 l4_2) = some (r1, r2, r3) := H
              have A20 := Aside0.mk A200
              clear A200
              have H' := Aside0.mk H
              clear H
              have hnb21 := NB180_181.out
              have hnc21 := NB181_180.out
              have hnb22 := NB180_182.out
              have hnc22 := NB182_180.out
              have hcz23_0 := bc_ BK180.out 0 (.int .i64 a0_0) rfl
              have hcz23_1 := bc_ BK180.out 1 (.int .i64 a0_1) rfl
              have hfz23_0 := blk_frozen BK180.out 0
              have hfz23_1 := blk_frozen BK180.out 1
              go_wp2_with (first | (go_at_call 36; (with_reducible refine (spec_IvalOk.calls a0_0 a0_1 true _ A12.out).mono ?_); rintro e w24 ⟨rfl, hb⟩; have n0_ := Aside0.mk (bb_ BK180.out hb); have n1_ := Aside0.mk (bb_ BK181.out hb); have n2_ := Aside0.mk (bb_ BK182.out hb); have n3_ := Aside0.mk (below_step (hb3_ HB.out GE180.out GE181.out GE182.out) hb); clear BK180; clear BK181; clear BK182; clear HB; have BK180 := n0_; have BK181 := n1_; have BK182 := n2_; have HB := n3_; clear n0_ n1_ n2_ n3_; (try clear hb); (try clear hb2); (try clear hk); (try clear hi); have hnb25 := NB181_182.out; have hnc25 := NB182_181.out; have hcz26_0 := bc_ BK181.out 0 (.int .i64 a2_0) rfl; have hcz26_1 := bc_ BK181.out 1 (.int .i64 a2_1) rfl; have hfz26_0 := blk_frozen BK181.out 0; have hfz26_1 := blk_frozen BK181.out 1) | (go_at_call 37; (with_reducible refine (spec_DriftOk.calls a2_0 a2_1 true _ A14.out).mono ?_); rintro e w27 ⟨rfl, hb⟩; have n0_ := Aside0.mk (bb_ BK180.out hb); have n1_ := Aside0.mk (bb_ BK181.out hb); have n2_ := Aside0.mk (bb_ BK182.out hb); have n3_ := Aside0.mk (below_step (hb3_ HB.out GE180.out GE181.out GE182.out) hb); clear BK180; clear BK181; clear BK182; clear HB; have BK180 := n0_; have BK181 := n1_; have BK182 := n2_; have HB := n3_; clear n0_ n1_ n2_ n3_; (try clear hb); (try clear hb2); (try clear hk); (try clear hi)) | (go_at_call 38; (with_reducible refine (spec_l1In.calls a3 1 1000000000000 true _ A16.out).mono ?_); rintro e w' ⟨rfl, ⟨nd, rfl⟩⟩; have hcz28_0 := bc_ BK182.out 0 (.int .i64 a4_0) rfl; have hcz28_1 := bc_ BK182.out 1 (.int .i64 a4_1) rfl; have hcz28_2 := bc_ BK182.out 2 (.slice A4_2 l4_2.length c4_2) rfl; have hfz28_0 := blk_frozen BK182.out 0; have hfz28_1 := blk_frozen BK182.out 1; have hfz28_2 := blk_frozen BK182.out 2) | (go_at_call 39; (with_reducible refine (spec_PlanOk.calls k a4_0 a4_1 _ _ l4_2 true _ ?side1 ?side2 A18.out).mono ?_); (case side1 => repeat (first | exact (Kd.C_below HR4_2.out (hb3_ HB.out GE180.out GE181.out GE182.out)) | (with_reducible refine Kd.C_alloc ?_ _) | (with_reducible refine Kd.C_drewN ?_ _) | (with_reducible refine Kd.C_drew ?_))); (case side2 => exact HC4_2.out); rintro e w29 ⟨rfl, hb⟩; have n0_ := Aside0.mk (bb_ BK180.out hb); have n1_ := Aside0.mk (bb_ BK181.out hb); have n2_ := Aside0.mk (bb_ BK182.out hb); have n3_ := Aside0.mk (below_step (hb3_ HB.out GE180.out GE181.out GE182.out) hb); clear BK180; clear BK181; clear BK182; clear HB; have BK180 := n0_; have BK181 := n1_; have BK182 := n2_; have HB := n3_; clear n0_ n1_ n2_ n3_; (try clear hb); (try clear hb2); (try clear hk); (try clear hi)) | (go_at_call 40; (with_reducible refine (spec_l4Node.calls a5 t187 _ A20.out).mono ?_); rintro e w' ⟨rfl, ⟨nd, rfl⟩⟩))
              go_meet
              case rel => exact ⟨_, (!t187), (by first | rfl | (simp; done) | (simp [*]; done)), H', ⟨by first | omega | exact Nat.le_refl _⟩, ⟨bk_ BK180.out⟩, ⟨bk_ BK181.out⟩, ⟨bk_ BK182.out⟩, ⟨hb3_ HB.out GE180.out GE181.out GE182.out⟩⟩
            · replace c19 := Bool.eq_false_iff.mpr c19
              subst c19
              have H1 : (spec_GateAsk.j0 k true a3 a5 true a0_0 a0_1 a2_0 a2_1 a4_0 a4_1 l4_2) = some (r1, r2, r3) := by rw [if_neg (show ¬ (false = true) by decide)] at H; exact H
              clear H
              have H := H1
              clear H1
              have H' := Aside0.mk H
              clear H
              have hnb30 := NB180_181.out
              have hnc30 := NB181_180.out
              have hnb31 := NB180_182.out
              have hnc31 := NB182_180.out
              have hcz32_0 := bc_ BK180.out 0 (.int .i64 a0_0) rfl
              have hcz32_1 := bc_ BK180.out 1 (.int .i64 a0_1) rfl
              have hfz32_0 := blk_frozen BK180.out 0
              have hfz32_1 := blk_frozen BK180.out 1
              go_wp2_with (first | (go_at_call 36; (with_reducible refine (spec_IvalOk.calls a0_0 a0_1 true _ A12.out).mono ?_); rintro e w33 ⟨rfl, hb⟩; have n0_ := Aside0.mk (bb_ BK180.out hb); have n1_ := Aside0.mk (bb_ BK181.out hb); have n2_ := Aside0.mk (bb_ BK182.out hb); have n3_ := Aside0.mk (below_step (hb3_ HB.out GE180.out GE181.out GE182.out) hb); clear BK180; clear BK181; clear BK182; clear HB; have BK180 := n0_; have BK181 := n1_; have BK182 := n2_; have HB := n3_; clear n0_ n1_ n2_ n3_; (try clear hb); (try clear hb2); (try clear hk); (try clear hi); have hnb34 := NB181_182.out; have hnc34 := NB182_181.out; have hcz35_0 := bc_ BK181.out 0 (.int .i64 a2_0) rfl; have hcz35_1 := bc_ BK181.out 1 (.int .i64 a2_1) rfl; have hfz35_0 := blk_frozen BK181.out 0; have hfz35_1 := blk_frozen BK181.out 1) | (go_at_call 37; (with_reducible refine (spec_DriftOk.calls a2_0 a2_1 true _ A14.out).mono ?_); rintro e w36 ⟨rfl, hb⟩; have n0_ := Aside0.mk (bb_ BK180.out hb); have n1_ := Aside0.mk (bb_ BK181.out hb); have n2_ := Aside0.mk (bb_ BK182.out hb); have n3_ := Aside0.mk (below_step (hb3_ HB.out GE180.out GE181.out GE182.out) hb); clear BK180; clear BK181; clear BK182; clear HB; have BK180 := n0_; have BK181 := n1_; have BK182 := n2_; have HB := n3_; clear n0_ n1_ n2_ n3_; (try clear hb); (try clear hb2); (try clear hk); (try clear hi)) | (go_at_call 38; (with_reducible refine (spec_l1In.calls a3 1 1000000000000 true _ A16.out).mono ?_); rintro e w' ⟨rfl, ⟨nd, rfl⟩⟩; have hcz37_0 := bc_ BK182.out 0 (.int .i64 a4_0) rfl; have hcz37_1 := bc_ BK182.out 1 (.int .i64 a4_1) rfl; have hcz37_2 := bc_ BK182.out 2 (.slice A4_2 l4_2.length c4_2) rfl; have hfz37_0 := blk_frozen BK182.out 0; have hfz37_1 := blk_frozen BK182.out 1; have hfz37_2 := blk_frozen BK182.out 2) | (go_at_call 39; (with_reducible refine (spec_PlanOk.calls k a4_0 a4_1 _ _ l4_2 false _ ?side1 ?side2 A18.out).mono ?_); (case side1 => repeat (first | exact (Kd.C_below HR4_2.out (hb3_ HB.out GE180.out GE181.out GE182.out)) | (with_reducible refine Kd.C_alloc ?_ _) | (with_reducible refine Kd.C_drewN ?_ _) | (with_reducible refine Kd.C_drew ?_))); (case side2 => exact HC4_2.out); rintro e w38 ⟨rfl, hb⟩; have n0_ := Aside0.mk (bb_ BK180.out hb); have n1_ := Aside0.mk (bb_ BK181.out hb); have n2_ := Aside0.mk (bb_ BK182.out hb); have n3_ := Aside0.mk (below_step (hb3_ HB.out GE180.out GE181.out GE182.out) hb); clear BK180; clear BK181; clear BK182; clear HB; have BK180 := n0_; have BK181 := n1_; have BK182 := n2_; have HB := n3_; clear n0_ n1_ n2_ n3_; (try clear hb); (try clear hb2); (try clear hk); (try clear hi)))
              go_meet
              case rel => exact ⟨_, (true), (by first | rfl | (simp; done) | (simp [*]; done)), H', ⟨by first | omega | exact Nat.le_refl _⟩, ⟨bk_ BK180.out⟩, ⟨bk_ BK181.out⟩, ⟨bk_ BK182.out⟩, ⟨hb3_ HB.out GE180.out GE181.out GE182.out⟩⟩
          · replace c17 := Bool.eq_false_iff.mpr c17
            subst c17
            have H1 : (spec_GateAsk.j0 k true a3 a5 true a0_0 a0_1 a2_0 a2_1 a4_0 a4_1 l4_2) = some (r1, r2, r3) := by rw [if_neg (show ¬ (false = true) by decide)] at H; exact H
            clear H
            have H := H1
            clear H1
            have H' := Aside0.mk H
            clear H
            have hnb39 := NB180_181.out
            have hnc39 := NB181_180.out
            have hnb40 := NB180_182.out
            have hnc40 := NB182_180.out
            have hcz41_0 := bc_ BK180.out 0 (.int .i64 a0_0) rfl
            have hcz41_1 := bc_ BK180.out 1 (.int .i64 a0_1) rfl
            have hfz41_0 := blk_frozen BK180.out 0
            have hfz41_1 := blk_frozen BK180.out 1
            go_wp2_with (first | (go_at_call 36; (with_reducible refine (spec_IvalOk.calls a0_0 a0_1 true _ A12.out).mono ?_); rintro e w42 ⟨rfl, hb⟩; have n0_ := Aside0.mk (bb_ BK180.out hb); have n1_ := Aside0.mk (bb_ BK181.out hb); have n2_ := Aside0.mk (bb_ BK182.out hb); have n3_ := Aside0.mk (below_step (hb3_ HB.out GE180.out GE181.out GE182.out) hb); clear BK180; clear BK181; clear BK182; clear HB; have BK180 := n0_; have BK181 := n1_; have BK182 := n2_; have HB := n3_; clear n0_ n1_ n2_ n3_; (try clear hb); (try clear hb2); (try clear hk); (try clear hi); have hnb43 := NB181_182.out; have hnc43 := NB182_181.out; have hcz44_0 := bc_ BK181.out 0 (.int .i64 a2_0) rfl; have hcz44_1 := bc_ BK181.out 1 (.int .i64 a2_1) rfl; have hfz44_0 := blk_frozen BK181.out 0; have hfz44_1 := blk_frozen BK181.out 1) | (go_at_call 37; (with_reducible refine (spec_DriftOk.calls a2_0 a2_1 true _ A14.out).mono ?_); rintro e w45 ⟨rfl, hb⟩; have n0_ := Aside0.mk (bb_ BK180.out hb); have n1_ := Aside0.mk (bb_ BK181.out hb); have n2_ := Aside0.mk (bb_ BK182.out hb); have n3_ := Aside0.mk (below_step (hb3_ HB.out GE180.out GE181.out GE182.out) hb); clear BK180; clear BK181; clear BK182; clear HB; have BK180 := n0_; have BK181 := n1_; have BK182 := n2_; have HB := n3_; clear n0_ n1_ n2_ n3_; (try clear hb); (try clear hb2); (try clear hk); (try clear hi)) | (go_at_call 38; (with_reducible refine (spec_l1In.calls a3 1 1000000000000 false _ A16.out).mono ?_); rintro e w' ⟨rfl, ⟨nd, rfl⟩⟩))
            go_meet
            case rel => exact ⟨_, (true), (by first | rfl | (simp; done) | (simp [*]; done)), H', ⟨by first | omega | exact Nat.le_refl _⟩, ⟨bk_ BK180.out⟩, ⟨bk_ BK181.out⟩, ⟨bk_ BK182.out⟩, ⟨hb3_ HB.out GE180.out GE181.out GE182.out⟩⟩
        · replace c15 := Bool.eq_false_iff.mpr c15
          subst c15
          have H1 : (spec_GateAsk.j0 k true a3 a5 true a0_0 a0_1 a2_0 a2_1 a4_0 a4_1 l4_2) = some (r1, r2, r3) := by rw [if_neg (show ¬ (false = true) by decide)] at H; exact H
          clear H
          have H := H1
          clear H1
          have H' := Aside0.mk H
          clear H
          have hnb46 := NB180_181.out
          have hnc46 := NB181_180.out
          have hnb47 := NB180_182.out
          have hnc47 := NB182_180.out
          have hcz48_0 := bc_ BK180.out 0 (.int .i64 a0_0) rfl
          have hcz48_1 := bc_ BK180.out 1 (.int .i64 a0_1) rfl
          have hfz48_0 := blk_frozen BK180.out 0
          have hfz48_1 := blk_frozen BK180.out 1
          go_wp2_with (first | (go_at_call 36; (with_reducible refine (spec_IvalOk.calls a0_0 a0_1 true _ A12.out).mono ?_); rintro e w49 ⟨rfl, hb⟩; have n0_ := Aside0.mk (bb_ BK180.out hb); have n1_ := Aside0.mk (bb_ BK181.out hb); have n2_ := Aside0.mk (bb_ BK182.out hb); have n3_ := Aside0.mk (below_step (hb3_ HB.out GE180.out GE181.out GE182.out) hb); clear BK180; clear BK181; clear BK182; clear HB; have BK180 := n0_; have BK181 := n1_; have BK182 := n2_; have HB := n3_; clear n0_ n1_ n2_ n3_; (try clear hb); (try clear hb2); (try clear hk); (try clear hi); have hnb50 := NB181_182.out; have hnc50 := NB182_181.out; have hcz51_0 := bc_ BK181.out 0 (.int .i64 a2_0) rfl; have hcz51_1 := bc_ BK181.out 1 (.int .i64 a2_1) rfl; have hfz51_0 := blk_frozen BK181.out 0; have hfz51_1 := blk_frozen BK181.out 1) | (go_at_call 37; (with_reducible refine (spec_DriftOk.calls a2_0 a2_1 false _ A14.out).mono ?_); rintro e w52 ⟨rfl, hb⟩; have n0_ := Aside0.mk (bb_ BK180.out hb); have n1_ := Aside0.mk (bb_ BK181.out hb); have n2_ := Aside0.mk (bb_ BK182.out hb); have n3_ := Aside0.mk (below_step (hb3_ HB.out GE180.out GE181.out GE182.out) hb); clear BK180; clear BK181; clear BK182; clear HB; have BK180 := n0_; have BK181 := n1_; have BK182 := n2_; have HB := n3_; clear n0_ n1_ n2_ n3_; (try clear hb); (try clear hb2); (try clear hk); (try clear hi)))
          go_meet
          case rel => exact ⟨_, (true), (by first | rfl | (simp; done) | (simp [*]; done)), H', ⟨by first | omega | exact Nat.le_refl _⟩, ⟨bk_ BK180.out⟩, ⟨bk_ BK181.out⟩, ⟨bk_ BK182.out⟩, ⟨hb3_ HB.out GE180.out GE181.out GE182.out⟩⟩
      · replace c13 := Bool.eq_false_iff.mpr c13
        subst c13
        have H1 : (spec_GateAsk.j0 k true a3 a5 true a0_0 a0_1 a2_0 a2_1 a4_0 a4_1 l4_2) = some (r1, r2, r3) := by rw [if_neg (show ¬ (false = true) by decide)] at H; exact H
        clear H
        have H := H1
        clear H1
        have H' := Aside0.mk H
        clear H
        have hnb53 := NB180_181.out
        have hnc53 := NB181_180.out
        have hnb54 := NB180_182.out
        have hnc54 := NB182_180.out
        have hcz55_0 := bc_ BK180.out 0 (.int .i64 a0_0) rfl
        have hcz55_1 := bc_ BK180.out 1 (.int .i64 a0_1) rfl
        have hfz55_0 := blk_frozen BK180.out 0
        have hfz55_1 := blk_frozen BK180.out 1
        go_wp2_with (first | (go_at_call 36; (with_reducible refine (spec_IvalOk.calls a0_0 a0_1 false _ A12.out).mono ?_); rintro e w56 ⟨rfl, hb⟩; have n0_ := Aside0.mk (bb_ BK180.out hb); have n1_ := Aside0.mk (bb_ BK181.out hb); have n2_ := Aside0.mk (bb_ BK182.out hb); have n3_ := Aside0.mk (below_step (hb3_ HB.out GE180.out GE181.out GE182.out) hb); clear BK180; clear BK181; clear BK182; clear HB; have BK180 := n0_; have BK181 := n1_; have BK182 := n2_; have HB := n3_; clear n0_ n1_ n2_ n3_; (try clear hb); (try clear hb2); (try clear hk); (try clear hi)))
        go_meet
        case rel => exact ⟨_, (true), (by first | rfl | (simp; done) | (simp [*]; done)), H', ⟨by first | omega | exact Nat.le_refl _⟩, ⟨bk_ BK180.out⟩, ⟨bk_ BK181.out⟩, ⟨bk_ BK182.out⟩, ⟨hb3_ HB.out GE180.out GE181.out GE182.out⟩⟩
    · replace c11 := Bool.eq_false_iff.mpr c11
      subst c11
      have H1 : ((spec_DriftOk.f a2_0 a2_1).bind fun t188 => (if t188 = true then ((spec_l1In.f a3 1 1000000000000).bind fun t189 => (if t189 = true then ((spec_PlanOk.f k a4_0 a4_1 l4_2).bind fun t190 => (if t190 = true then ((spec_l4Node.f a5).bind fun t191 => (spec_GateAsk.j0 k false a3 a5 (!t191) a0_0 a0_1 a2_0 a2_1 a4_0 a4_1 l4_2)) else (spec_GateAsk.j0 k false a3 a5 true a0_0 a0_1 a2_0 a2_1 a4_0 a4_1 l4_2))) else (spec_GateAsk.j0 k false a3 a5 true a0_0 a0_1 a2_0 a2_1 a4_0 a4_1 l4_2))) else (spec_GateAsk.j0 k false a3 a5 true a0_0 a0_1 a2_0 a2_1 a4_0 a4_1 l4_2))) = some (r1, r2, r3) := by rw [if_neg (show ¬ (false = true) by decide)] at H; exact H
      clear H
      have H := H1
      clear H1
      replace H := Option.bind_eq_some_iff.mp H
      obtain ⟨t188, A570, H⟩ := H
      replace H : (if t188 = true then ((spec_l1In.f a3 1 1000000000000).bind fun t189 => (if t189 = true then ((spec_PlanOk.f k a4_0 a4_1 l4_2).bind fun t190 => (if t190 = true then ((spec_l4Node.f a5).bind fun t191 => (spec_GateAsk.j0 k false a3 a5 (!t191) a0_0 a0_1 a2_0 a2_1 a4_0 a4_1 l4_2)) else (spec_GateAsk.j0 k false a3 a5 true a0_0 a0_1 a2_0 a2_1 a4_0 a4_1 l4_2))) else (spec_GateAsk.j0 k false a3 a5 true a0_0 a0_1 a2_0 a2_1 a4_0 a4_1 l4_2))) else (spec_GateAsk.j0 k false a3 a5 true a0_0 a0_1 a2_0 a2_1 a4_0 a4_1 l4_2)) = some (r1, r2, r3) := H
      have A57 := Aside0.mk A570
      clear A570
      by_cases c58 : t188 = true
      · subst c58
        have H1 : ((spec_l1In.f a3 1 1000000000000).bind fun t189 => (if t189 = true then ((spec_PlanOk.f k a4_0 a4_1 l4_2).bind fun t190 => (if t190 = true then ((spec_l4Node.f a5).bind fun t191 => (spec_GateAsk.j0 k false a3 a5 (!t191) a0_0 a0_1 a2_0 a2_1 a4_0 a4_1 l4_2)) else (spec_GateAsk.j0 k false a3 a5 true a0_0 a0_1 a2_0 a2_1 a4_0 a4_1 l4_2))) else (spec_GateAsk.j0 k false a3 a5 true a0_0 a0_1 a2_0 a2_1 a4_0 a4_1 l4_2))) = some (r1, r2, r3) := by rw [if_pos rfl] at H; exact H
        clear H
        have H := H1
        clear H1
        replace H := Option.bind_eq_some_iff.mp H
        obtain ⟨t189, A590, H⟩ := H
        replace H : (if t189 = true then ((spec_PlanOk.f k a4_0 a4_1 l4_2).bind fun t190 => (if t190 = true then ((spec_l4Node.f a5).bind fun t191 => (spec_GateAsk.j0 k false a3 a5 (!t191) a0_0 a0_1 a2_0 a2_1 a4_0 a4_1 l4_2)) else (spec_GateAsk.j0 k false a3 a5 true a0_0 a0_1 a2_0 a2_1 a4_0 a4_1 l4_2))) else (spec_GateAsk.j0 k false a3 a5 true a0_0 a0_1 a2_0 a2_1 a4_0 a4_1 l4_2)) = some (r1, r2, r3) := H
        have A59 := Aside0.mk A590
        clear A590
        by_cases c60 : t189 = true
        · subst c60
          have H1 : ((spec_PlanOk.f k a4_0 a4_1 l4_2).bind fun t190 => (if t190 = true then ((spec_l4Node.f a5).bind fun t191 => (spec_GateAsk.j0 k false a3 a5 (!t191) a0_0 a0_1 a2_0 a2_1 a4_0 a4_1 l4_2)) else (spec_GateAsk.j0 k false a3 a5 true a0_0 a0_1 a2_0 a2_1 a4_0 a4_1 l4_2))) = some (r1, r2, r3) := by rw [if_pos rfl] at H; exact H
          clear H
          have H := H1
          clear H1
          replace H := Option.bind_eq_some_iff.mp H
          obtain ⟨t190, A610, H⟩ := H
          replace H : (if t190 = true then ((spec_l4Node.f a5).bind fun t191 => (spec_GateAsk.j0 k false a3 a5 (!t191) a0_0 a0_1 a2_0 a2_1 a4_0 a4_1 l4_2)) else (spec_GateAsk.j0 k false a3 a5 true a0_0 a0_1 a2_0 a2_1 a4_0 a4_1 l4_2)) = some (r1, r2, r3) := H
          have A61 := Aside0.mk A610
          clear A610
          by_cases c62 : t190 = true
          · subst c62
            have H1 : ((spec_l4Node.f a5).bind fun t191 => (spec_GateAsk.j0 k false a3 a5 (!t191) a0_0 a0_1 a2_0 a2_1 a4_0 a4_1 l4_2)) = some (r1, r2, r3) := by rw [if_pos rfl] at H; exact H
            clear H
            have H := H1
            clear H1
            replace H := Option.bind_eq_some_iff.mp H
            obtain ⟨t191, A630, H⟩ := H
            replace H : (spec_GateAsk.j0 k false a3 a5 (!t191) a0_0 a0_1 a2_0 a2_1 a4_0 a4_1 l4_2) = some (r1, r2, r3) := H
            have A63 := Aside0.mk A630
            clear A630
            have H' := Aside0.mk H
            clear H
            have hnb64 := NB181_180.out
            have hnc64 := NB180_181.out
            have hnb65 := NB181_182.out
            have hnc65 := NB182_181.out
            have hcz66_0 := bc_ BK181.out 0 (.int .i64 a2_0) rfl
            have hcz66_1 := bc_ BK181.out 1 (.int .i64 a2_1) rfl
            have hfz66_0 := blk_frozen BK181.out 0
            have hfz66_1 := blk_frozen BK181.out 1
            go_wp2_with (first | (go_at_call 37; (with_reducible refine (spec_DriftOk.calls a2_0 a2_1 true _ A57.out).mono ?_); rintro e w67 ⟨rfl, hb⟩; have n0_ := Aside0.mk (bb_ BK180.out hb); have n1_ := Aside0.mk (bb_ BK181.out hb); have n2_ := Aside0.mk (bb_ BK182.out hb); have n3_ := Aside0.mk (below_step (hb3_ HB.out GE180.out GE181.out GE182.out) hb); clear BK180; clear BK181; clear BK182; clear HB; have BK180 := n0_; have BK181 := n1_; have BK182 := n2_; have HB := n3_; clear n0_ n1_ n2_ n3_; (try clear hb); (try clear hb2); (try clear hk); (try clear hi)) | (go_at_call 38; (with_reducible refine (spec_l1In.calls a3 1 1000000000000 true _ A59.out).mono ?_); rintro e w' ⟨rfl, ⟨nd, rfl⟩⟩; have hnb68 := NB182_180.out; have hnc68 := NB180_182.out; have hcz69_0 := bc_ BK182.out 0 (.int .i64 a4_0) rfl; have hcz69_1 := bc_ BK182.out 1 (.int .i64 a4_1) rfl; have hcz69_2 := bc_ BK182.out 2 (.slice A4_2 l4_2.length c4_2) rfl; have hfz69_0 := blk_frozen BK182.out 0; have hfz69_1 := blk_frozen BK182.out 1; have hfz69_2 := blk_frozen BK182.out 2) | (go_at_call 39; (with_reducible refine (spec_PlanOk.calls k a4_0 a4_1 _ _ l4_2 true _ ?side1 ?side2 A61.out).mono ?_); (case side1 => repeat (first | exact (Kd.C_below HR4_2.out (hb3_ HB.out GE180.out GE181.out GE182.out)) | (with_reducible refine Kd.C_alloc ?_ _) | (with_reducible refine Kd.C_drewN ?_ _) | (with_reducible refine Kd.C_drew ?_))); (case side2 => exact HC4_2.out); rintro e w70 ⟨rfl, hb⟩; have n0_ := Aside0.mk (bb_ BK180.out hb); have n1_ := Aside0.mk (bb_ BK181.out hb); have n2_ := Aside0.mk (bb_ BK182.out hb); have n3_ := Aside0.mk (below_step (hb3_ HB.out GE180.out GE181.out GE182.out) hb); clear BK180; clear BK181; clear BK182; clear HB; have BK180 := n0_; have BK181 := n1_; have BK182 := n2_; have HB := n3_; clear n0_ n1_ n2_ n3_; (try clear hb); (try clear hb2); (try clear hk); (try clear hi)) | (go_at_call 40; (with_reducible refine (spec_l4Node.calls a5 t191 _ A63.out).mono ?_); rintro e w' ⟨rfl, ⟨nd, rfl⟩⟩))
            go_meet
            case rel => exact ⟨_, (!t191), (by first | rfl | (simp; done) | (simp [*]; done)), H', ⟨by first | omega | exact Nat.le_refl _⟩, ⟨bk_ BK180.out⟩, ⟨bk_ BK181.out⟩, ⟨bk_ BK182.out⟩, ⟨hb3_ HB.out GE180.out GE181.out GE182.out⟩⟩
          · replace c62 := Bool.eq_false_iff.mpr c62
            subst c62
            have H1 : (spec_GateAsk.j0 k false a3 a5 true a0_0 a0_1 a2_0 a2_1 a4_0 a4_1 l4_2) = some (r1, r2, r3) := by rw [if_neg (show ¬ (false = true) by decide)] at H; exact H
            clear H
            have H := H1
            clear H1
            have H' := Aside0.mk H
            clear H
            have hnb71 := NB181_180.out
            have hnc71 := NB180_181.out
            have hnb72 := NB181_182.out
            have hnc72 := NB182_181.out
            have hcz73_0 := bc_ BK181.out 0 (.int .i64 a2_0) rfl
            have hcz73_1 := bc_ BK181.out 1 (.int .i64 a2_1) rfl
            have hfz73_0 := blk_frozen BK181.out 0
            have hfz73_1 := blk_frozen BK181.out 1
            go_wp2_with (first | (go_at_call 37; (with_reducible refine (spec_DriftOk.calls a2_0 a2_1 true _ A57.out).mono ?_); rintro e w74 ⟨rfl, hb⟩; have n0_ := Aside0.mk (bb_ BK180.out hb); have n1_ := Aside0.mk (bb_ BK181.out hb); have n2_ := Aside0.mk (bb_ BK182.out hb); have n3_ := Aside0.mk (below_step (hb3_ HB.out GE180.out GE181.out GE182.out) hb); clear BK180; clear BK181; clear BK182; clear HB; have BK180 := n0_; have BK181 := n1_; have BK182 := n2_; have HB := n3_; clear n0_ n1_ n2_ n3_; (try clear hb); (try clear hb2); (try clear hk); (try clear hi)) | (go_at_call 38; (with_reducible refine (spec_l1In.calls a3 1 1000000000000 true _ A59.out).mono ?_); rintro e w' ⟨rfl, ⟨nd, rfl⟩⟩; have hnb75 := NB182_180.out; have hnc75 := NB180_182.out; have hcz76_0 := bc_ BK182.out 0 (.int .i64 a4_0) rfl; have hcz76_1 := bc_ BK182.out 1 (.int .i64 a4_1) rfl; have hcz76_2 := bc_ BK182.out 2 (.slice A4_2 l4_2.length c4_2) rfl; have hfz76_0 := blk_frozen BK182.out 0; have hfz76_1 := blk_frozen BK182.out 1; have hfz76_2 := blk_frozen BK182.out 2) | (go_at_call 39; (with_reducible refine (spec_PlanOk.calls k a4_0 a4_1 _ _ l4_2 false _ ?side1 ?side2 A61.out).mono ?_); (case side1 => repeat (first | exact (Kd.C_below HR4_2.out (hb3_ HB.out GE180.out GE181.out GE182.out)) | (with_reducible refine Kd.C_alloc ?_ _) | (with_reducible refine Kd.C_drewN ?_ _) | (with_reducible refine Kd.C_drew ?_))); (case side2 => exact HC4_2.out); rintro e w77 ⟨rfl, hb⟩; have n0_ := Aside0.mk (bb_ BK180.out hb); have n1_ := Aside0.mk (bb_ BK181.out hb); have n2_ := Aside0.mk (bb_ BK182.out hb); have n3_ := Aside0.mk (below_step (hb3_ HB.out GE180.out GE181.out GE182.out) hb); clear BK180; clear BK181; clear BK182; clear HB; have BK180 := n0_; have BK181 := n1_; have BK182 := n2_; have HB := n3_; clear n0_ n1_ n2_ n3_; (try clear hb); (try clear hb2); (try clear hk); (try clear hi)))
            go_meet
            case rel => exact ⟨_, (true), (by first | rfl | (simp; done) | (simp [*]; done)), H', ⟨by first | omega | exact Nat.le_refl _⟩, ⟨bk_ BK180.out⟩, ⟨bk_ BK181.out⟩, ⟨bk_ BK182.out⟩, ⟨hb3_ HB.out GE180.out GE181.out GE182.out⟩⟩
        · replace c60 := Bool.eq_false_iff.mpr c60
          subst c60
          have H1 : (spec_GateAsk.j0 k false a3 a5 true a0_0 a0_1 a2_0 a2_1 a4_0 a4_1 l4_2) = some (r1, r2, r3) := by rw [if_neg (show ¬ (false = true) by decide)] at H; exact H
          clear H
          have H := H1
          clear H1
          have H' := Aside0.mk H
          clear H
          have hnb78 := NB181_180.out
          have hnc78 := NB180_181.out
          have hnb79 := NB181_182.out
          have hnc79 := NB182_181.out
          have hcz80_0 := bc_ BK181.out 0 (.int .i64 a2_0) rfl
          have hcz80_1 := bc_ BK181.out 1 (.int .i64 a2_1) rfl
          have hfz80_0 := blk_frozen BK181.out 0
          have hfz80_1 := blk_frozen BK181.out 1
          go_wp2_with (first | (go_at_call 37; (with_reducible refine (spec_DriftOk.calls a2_0 a2_1 true _ A57.out).mono ?_); rintro e w81 ⟨rfl, hb⟩; have n0_ := Aside0.mk (bb_ BK180.out hb); have n1_ := Aside0.mk (bb_ BK181.out hb); have n2_ := Aside0.mk (bb_ BK182.out hb); have n3_ := Aside0.mk (below_step (hb3_ HB.out GE180.out GE181.out GE182.out) hb); clear BK180; clear BK181; clear BK182; clear HB; have BK180 := n0_; have BK181 := n1_; have BK182 := n2_; have HB := n3_; clear n0_ n1_ n2_ n3_; (try clear hb); (try clear hb2); (try clear hk); (try clear hi)) | (go_at_call 38; (with_reducible refine (spec_l1In.calls a3 1 1000000000000 false _ A59.out).mono ?_); rintro e w' ⟨rfl, ⟨nd, rfl⟩⟩))
          go_meet
          case rel => exact ⟨_, (true), (by first | rfl | (simp; done) | (simp [*]; done)), H', ⟨by first | omega | exact Nat.le_refl _⟩, ⟨bk_ BK180.out⟩, ⟨bk_ BK181.out⟩, ⟨bk_ BK182.out⟩, ⟨hb3_ HB.out GE180.out GE181.out GE182.out⟩⟩
      · replace c58 := Bool.eq_false_iff.mpr c58
        subst c58
        have H1 : (spec_GateAsk.j0 k false a3 a5 true a0_0 a0_1 a2_0 a2_1 a4_0 a4_1 l4_2) = some (r1, r2, r3) := by rw [if_neg (show ¬ (false = true) by decide)] at H; exact H
        clear H
        have H := H1
        clear H1
        have H' := Aside0.mk H
        clear H
        have hnb82 := NB181_180.out
        have hnc82 := NB180_181.out
        have hnb83 := NB181_182.out
        have hnc83 := NB182_181.out
        have hcz84_0 := bc_ BK181.out 0 (.int .i64 a2_0) rfl
        have hcz84_1 := bc_ BK181.out 1 (.int .i64 a2_1) rfl
        have hfz84_0 := blk_frozen BK181.out 0
        have hfz84_1 := blk_frozen BK181.out 1
        go_wp2_with (first | (go_at_call 37; (with_reducible refine (spec_DriftOk.calls a2_0 a2_1 false _ A57.out).mono ?_); rintro e w85 ⟨rfl, hb⟩; have n0_ := Aside0.mk (bb_ BK180.out hb); have n1_ := Aside0.mk (bb_ BK181.out hb); have n2_ := Aside0.mk (bb_ BK182.out hb); have n3_ := Aside0.mk (below_step (hb3_ HB.out GE180.out GE181.out GE182.out) hb); clear BK180; clear BK181; clear BK182; clear HB; have BK180 := n0_; have BK181 := n1_; have BK182 := n2_; have HB := n3_; clear n0_ n1_ n2_ n3_; (try clear hb); (try clear hb2); (try clear hk); (try clear hi)))
        go_meet
        case rel => exact ⟨_, (true), (by first | rfl | (simp; done) | (simp [*]; done)), H', ⟨by first | omega | exact Nat.le_refl _⟩, ⟨bk_ BK180.out⟩, ⟨bk_ BK181.out⟩, ⟨bk_ BK182.out⟩, ⟨hb3_ HB.out GE180.out GE181.out GE182.out⟩⟩
  case rest =>
    clear HC7
    try clear c1
    try clear c2
    try clear p2
    try clear c3
    try clear c4
    try clear c5
    try clear c6
    try clear c7
    try clear c8
    try clear c10
    try clear c11
    try clear c13
    try clear c15
    try clear c17
    try clear c19
    try clear c21
    try clear c22
    try clear c25
    try clear c30
    try clear c31
    try clear c34
    try clear c39
    try clear c40
    try clear c43
    try clear c46
    try clear c47
    try clear c50
    try clear c53
    try clear c54
    try clear c58
    try clear c60
    try clear c62
    try clear c64
    try clear c65
    try clear c68
    try clear c71
    try clear c72
    try clear c75
    try clear c78
    try clear c79
    try clear c82
    try clear c83
    try clear hcz23_0
    try clear hcz23_1
    try clear hcz26_0
    try clear hcz26_1
    try clear hcz28_0
    try clear hcz28_1
    try clear hcz28_2
    try clear hcz32_0
    try clear hcz32_1
    try clear hcz35_0
    try clear hcz35_1
    try clear hcz37_0
    try clear hcz37_1
    try clear hcz37_2
    try clear hcz41_0
    try clear hcz41_1
    try clear hcz44_0
    try clear hcz44_1
    try clear hcz48_0
    try clear hcz48_1
    try clear hcz51_0
    try clear hcz51_1
    try clear hcz55_0
    try clear hcz55_1
    try clear hcz66_0
    try clear hcz66_1
    try clear hcz69_0
    try clear hcz69_1
    try clear hcz69_2
    try clear hcz73_0
    try clear hcz73_1
    try clear hcz76_0
    try clear hcz76_1
    try clear hcz76_2
    try clear hcz80_0
    try clear hcz80_1
    try clear hcz84_0
    try clear hcz84_1
    try clear hfz23_0
    try clear hfz23_1
    try clear hfz26_0
    try clear hfz26_1
    try clear hfz28_0
    try clear hfz28_1
    try clear hfz28_2
    try clear hfz32_0
    try clear hfz32_1
    try clear hfz35_0
    try clear hfz35_1
    try clear hfz37_0
    try clear hfz37_1
    try clear hfz37_2
    try clear hfz41_0
    try clear hfz41_1
    try clear hfz44_0
    try clear hfz44_1
    try clear hfz48_0
    try clear hfz48_1
    try clear hfz51_0
    try clear hfz51_1
    try clear hfz55_0
    try clear hfz55_1
    try clear hfz66_0
    try clear hfz66_1
    try clear hfz69_0
    try clear hfz69_1
    try clear hfz69_2
    try clear hfz73_0
    try clear hfz73_1
    try clear hfz76_0
    try clear hfz76_1
    try clear hfz76_2
    try clear hfz80_0
    try clear hfz80_1
    try clear hfz84_0
    try clear hfz84_1
    obtain ⟨kq, x45_6, rfl, HA, HJ6, BK180, BK181, BK182, HB⟩ := hcut
    cases kq with
    | zero => exact absurd HA.out (by simp [spec_GateAsk.j0])
    | succ kj6 =>
      have H := HA.out
      clear HA
      simp only [spec_GateAsk.j0] at H
      by_cases c86 : x45_6 = true
      · subst c86
        have H1 : (some (0, 0, 1)) = some (r1, r2, r3) := by rw [if_pos rfl] at H; exact H
        clear H
        have H := H1
        clear H1
        simp only [Option.some.injEq, Prod.mk.injEq] at H
        obtain ⟨rfl, rfl, rfl⟩ := H
        go_wp2
        go_ret3
        exact ⟨er_, hb3_ HB.out GE180.out GE181.out GE182.out⟩
      · replace c86 := Bool.eq_false_iff.mpr c86
        subst c86
        have H1 : ((spec_GateSpan.f kj6 a0_0 a0_1 a2_0 a2_1 a3).bind fun bt192 => (if a1 = true then (spec_GateAsk.j1 kj6 a5 (!bt192.2.2) a4_0 a4_1 l4_2 bt192.1 bt192.2.1) else (spec_GateAsk.j1 kj6 a5 true a4_0 a4_1 l4_2 bt192.1 bt192.2.1))) = some (r1, r2, r3) := by rw [if_neg (show ¬ (false = true) by decide)] at H; exact H
        clear H
        have H := H1
        clear H1
        replace H := Option.bind_eq_some_iff.mp H
        obtain ⟨⟨t192, t193, t194⟩, A870, H⟩ := H
        replace H : (if a1 = true then (spec_GateAsk.j1 kj6 a5 (!t194) a4_0 a4_1 l4_2 t192 t193) else (spec_GateAsk.j1 kj6 a5 true a4_0 a4_1 l4_2 t192 t193)) = some (r1, r2, r3) := H
        have A87 := Aside0.mk A870
        clear A870
        have HC88 := Aside0.mk H
        clear H
        have hnb89 := NB180_181.out
        have hnc89 := NB181_180.out
        have hnb90 := NB180_182.out
        have hnc90 := NB182_180.out
        have hcz91_0 := bc_ BK180.out 0 (.int .i64 a0_0) rfl
        have hcz91_1 := bc_ BK180.out 1 (.int .i64 a0_1) rfl
        have hfz91_0 := blk_frozen BK180.out 0
        have hfz91_1 := blk_frozen BK180.out 1
        have hnb92 := NB181_182.out
        have hnc92 := NB182_181.out
        have hcz93_0 := bc_ BK181.out 0 (.int .i64 a2_0) rfl
        have hcz93_1 := bc_ BK181.out 1 (.int .i64 a2_1) rfl
        have hfz93_0 := blk_frozen BK181.out 0
        have hfz93_1 := blk_frozen BK181.out 1
        go_upto_region 4 with (first | ((with_reducible refine gate_callee (f := 25) rfl ?_); refine goesL_ (some 50) rfl rfl Try.func25 (by kernel_rfl) rfl #[.agg #[.int .i64 a0_0, .int .i64 a0_1], .agg #[.int .i64 a2_0, .int .i64 a2_1], .int .i64 a3] rfl arr_ ?_; (with_reducible refine (spec_GateSpan.calls kj6 a0_0 a0_1 a2_0 a2_1 a3 t192 t193 t194 _ A87.out).mono ?_); rintro e w94 ⟨rfl, hb⟩; refine ⟨_, rfl, ?_⟩; have n0_ := Aside0.mk (bb_ BK180.out hb); have n1_ := Aside0.mk (bb_ BK181.out hb); have n2_ := Aside0.mk (bb_ BK182.out hb); have n3_ := Aside0.mk (below_step (hb3_ HB.out GE180.out GE181.out GE182.out) hb); clear BK180; clear BK181; clear BK182; clear HB; have BK180 := n0_; have BK181 := n1_; have BK182 := n2_; have HB := n3_; clear n0_ n1_ n2_ n3_; (try clear hb); (try clear hb2); (try clear hk); (try clear hi)) | ((with_reducible refine gate_dst (N := 15) rfl ?_); refine box_event ?hg (N := 15) ?hd (cs := #[.int .i64 0, .int .i64 0]) (t := 32) ?hr ?_; (case hd => rfl); (case hg => rfl); (case hr => first | (go_simp; done) | (go_simp; rfl)); intro gb195 hg w95 hbox hb; have n0_ := Aside0.mk (bb_ BK180.out hb); have n1_ := Aside0.mk (bb_ BK181.out hb); have n2_ := Aside0.mk (bb_ BK182.out hb); have n3_ := Aside0.mk (below_step (hb3_ HB.out GE180.out GE181.out GE182.out) hb); have n4_ := Aside0.mk (hbox); have n5_ := Aside0.mk ((by rw [hg]; exact (below_size (hb3_ HB.out GE180.out GE181.out GE182.out)) : w.heap.size ≤ gb195)); have n6_ := Aside0.mk ((by rw [hg]; exact (below_size (hb3_ HB.out GE180.out GE181.out GE182.out)) : w.heap.size ≤ gb195)); have n7_ := Aside0.mk ((bl_ hg BK180.out : gb180 ≠ gb195)); have n8_ := Aside0.mk ((bg_ hg BK180.out : gb195 ≠ gb180)); have n9_ := Aside0.mk ((bl_ hg BK181.out : gb181 ≠ gb195)); have n10_ := Aside0.mk ((bg_ hg BK181.out : gb195 ≠ gb181)); have n11_ := Aside0.mk ((bl_ hg BK182.out : gb182 ≠ gb195)); have n12_ := Aside0.mk ((bg_ hg BK182.out : gb195 ≠ gb182)); clear BK180; clear BK181; clear BK182; clear HB; have BK180 := n0_; have BK181 := n1_; have BK182 := n2_; have HB := n3_; have BK195 := n4_; have GW195 := n5_; have GE195 := n6_; have NB180_195 := n7_; have NB195_180 := n8_; have NB181_195 := n9_; have NB195_181 := n10_; have NB182_195 := n11_; have NB195_182 := n12_; clear n0_ n1_ n2_ n3_ n4_ n5_ n6_ n7_ n8_ n9_ n10_ n11_ n12_; clear hb hbox hg; have hnb96 := NB195_180.out; have hnc96 := NB180_195.out; have hnb97 := NB195_181.out; have hnc97 := NB181_195.out; have hnb98 := NB195_182.out; have hnc98 := NB182_195.out; have hcz99_0 := bc_ BK195.out 0 (.int .i64 0) rfl; have hcz99_1 := bc_ BK195.out 1 (.int .i64 0) rfl; have hfz99_0 := blk_frozen BK195.out 0; have hfz99_1 := blk_frozen BK195.out 1))
        (try simp only [Act.put, List.setIfInBounds_toArray, List.set_cons_zero, List.set_cons_succ])
        go_cut [58] (fun v58 wc => ∃ (kq : Nat) (x58_87 : Bool), v58 = .bool x58_87 ∧ Aside0 (spec_GateAsk.j1 kq a5 x58_87 a4_0 a4_1 l4_2 t192 t193 = some (r1, r2, r3)) ∧ Aside0 (kq ≤ kj6) ∧ Aside0 (wc.heap[gb180]? = some (.cells #[.int .i64 a0_0, .int .i64 a0_1] 32 (0, 0))) ∧ Aside0 (wc.heap[gb181]? = some (.cells #[.int .i64 a2_0, .int .i64 a2_1] 34 (0, 0))) ∧ Aside0 (wc.heap[gb182]? = some (.cells #[.int .i64 a4_0, .int .i64 a4_1, (.slice A4_2 l4_2.length c4_2)] 38 (0, 0))) ∧ Aside0 (wc.heap[gb195]? = some (.cells #[.int .i64 t192, .int .i64 t193] 32 (0, 0))) ∧ Aside0 (Below w.heap.size w wc))
        case first =>
          have H := HC88.out
          clear HC88
          by_cases c100 : a1 = true
          · subst c100
            have H1 : (spec_GateAsk.j1 kj6 a5 (!t194) a4_0 a4_1 l4_2 t192 t193) = some (r1, r2, r3) := by rw [if_pos rfl] at H; exact H
            clear H
            have H := H1
            clear H1
            have H' := Aside0.mk H
            clear H
            go_wp2
            go_meet
            case rel => exact ⟨_, (!t194), (by first | rfl | (simp; done) | (simp [*]; done)), H', ⟨by have := HJ6.out; first | omega | exact Nat.le_refl _⟩, ⟨by (with_reducible repeat (first | refine blk_drewN ?_ _ | refine blk_drew ?_ | refine blk_alloc ?_ _)); refine blk_far ?_ NB180_195.out _; (with_reducible repeat (first | refine blk_drewN ?_ _ | refine blk_drew ?_ | refine blk_alloc ?_ _)); refine blk_far ?_ NB180_195.out _; (with_reducible repeat (first | refine blk_drewN ?_ _ | refine blk_drew ?_ | refine blk_alloc ?_ _)); exact BK180.out⟩, ⟨by (with_reducible repeat (first | refine blk_drewN ?_ _ | refine blk_drew ?_ | refine blk_alloc ?_ _)); refine blk_far ?_ NB181_195.out _; (with_reducible repeat (first | refine blk_drewN ?_ _ | refine blk_drew ?_ | refine blk_alloc ?_ _)); refine blk_far ?_ NB181_195.out _; (with_reducible repeat (first | refine blk_drewN ?_ _ | refine blk_drew ?_ | refine blk_alloc ?_ _)); exact BK181.out⟩, ⟨by (with_reducible repeat (first | refine blk_drewN ?_ _ | refine blk_drew ?_ | refine blk_alloc ?_ _)); refine blk_far ?_ NB182_195.out _; (with_reducible repeat (first | refine blk_drewN ?_ _ | refine blk_drew ?_ | refine blk_alloc ?_ _)); refine blk_far ?_ NB182_195.out _; (with_reducible repeat (first | refine blk_drewN ?_ _ | refine blk_drew ?_ | refine blk_alloc ?_ _)); exact BK182.out⟩, ⟨by (with_reducible repeat (first | refine blk_drewN ?_ _ | refine blk_drew ?_ | refine blk_alloc ?_ _)); refine blk_put (cs := #[.int .i64 t192, .int .i64 0]) ?_ 1 _ rfl; (with_reducible repeat (first | refine blk_drewN ?_ _ | refine blk_drew ?_ | refine blk_alloc ?_ _)); refine blk_put (cs := #[.int .i64 0, .int .i64 0]) ?_ 0 _ rfl; (with_reducible repeat (first | refine blk_drewN ?_ _ | refine blk_drew ?_ | refine blk_alloc ?_ _)); exact BK195.out⟩, ⟨hb4_ HB.out GE180.out GE181.out GE182.out GE195.out⟩⟩
          · replace c100 := Bool.eq_false_iff.mpr c100
            subst c100
            have H1 : (spec_GateAsk.j1 kj6 a5 true a4_0 a4_1 l4_2 t192 t193) = some (r1, r2, r3) := by rw [if_neg (show ¬ (false = true) by decide)] at H; exact H
            clear H
            have H := H1
            clear H1
            have H' := Aside0.mk H
            clear H
            go_wp2
            go_meet
            case rel => exact ⟨_, (true), (by first | rfl | (simp; done) | (simp [*]; done)), H', ⟨by have := HJ6.out; first | omega | exact Nat.le_refl _⟩, ⟨by (with_reducible repeat (first | refine blk_drewN ?_ _ | refine blk_drew ?_ | refine blk_alloc ?_ _)); refine blk_far ?_ NB180_195.out _; (with_reducible repeat (first | refine blk_drewN ?_ _ | refine blk_drew ?_ | refine blk_alloc ?_ _)); refine blk_far ?_ NB180_195.out _; (with_reducible repeat (first | refine blk_drewN ?_ _ | refine blk_drew ?_ | refine blk_alloc ?_ _)); exact BK180.out⟩, ⟨by (with_reducible repeat (first | refine blk_drewN ?_ _ | refine blk_drew ?_ | refine blk_alloc ?_ _)); refine blk_far ?_ NB181_195.out _; (with_reducible repeat (first | refine blk_drewN ?_ _ | refine blk_drew ?_ | refine blk_alloc ?_ _)); refine blk_far ?_ NB181_195.out _; (with_reducible repeat (first | refine blk_drewN ?_ _ | refine blk_drew ?_ | refine blk_alloc ?_ _)); exact BK181.out⟩, ⟨by (with_reducible repeat (first | refine blk_drewN ?_ _ | refine blk_drew ?_ | refine blk_alloc ?_ _)); refine blk_far ?_ NB182_195.out _; (with_reducible repeat (first | refine blk_drewN ?_ _ | refine blk_drew ?_ | refine blk_alloc ?_ _)); refine blk_far ?_ NB182_195.out _; (with_reducible repeat (first | refine blk_drewN ?_ _ | refine blk_drew ?_ | refine blk_alloc ?_ _)); exact BK182.out⟩, ⟨by (with_reducible repeat (first | refine blk_drewN ?_ _ | refine blk_drew ?_ | refine blk_alloc ?_ _)); refine blk_put (cs := #[.int .i64 t192, .int .i64 0]) ?_ 1 _ rfl; (with_reducible repeat (first | refine blk_drewN ?_ _ | refine blk_drew ?_ | refine blk_alloc ?_ _)); refine blk_put (cs := #[.int .i64 0, .int .i64 0]) ?_ 0 _ rfl; (with_reducible repeat (first | refine blk_drewN ?_ _ | refine blk_drew ?_ | refine blk_alloc ?_ _)); exact BK195.out⟩, ⟨hb4_ HB.out GE180.out GE181.out GE182.out GE195.out⟩⟩
        case rest =>
          clear HC88
          try clear c1
          try clear c2
          try clear p2
          try clear c3
          try clear c4
          try clear c5
          try clear c6
          try clear c7
          try clear c8
          try clear c9
          try clear c10
          try clear c11
          try clear c13
          try clear c15
          try clear c17
          try clear c19
          try clear c21
          try clear c22
          try clear c25
          try clear c30
          try clear c31
          try clear c34
          try clear c39
          try clear c40
          try clear c43
          try clear c46
          try clear c47
          try clear c50
          try clear c53
          try clear c54
          try clear c58
          try clear c60
          try clear c62
          try clear c64
          try clear c65
          try clear c68
          try clear c71
          try clear c72
          try clear c75
          try clear c78
          try clear c79
          try clear c82
          try clear c83
          try clear c86
          try clear c89
          try clear c90
          try clear c92
          try clear c96
          try clear c97
          try clear c98
          try clear c100
          try clear hcz23_0
          try clear hcz23_1
          try clear hcz26_0
          try clear hcz26_1
          try clear hcz28_0
          try clear hcz28_1
          try clear hcz28_2
          try clear hcz32_0
          try clear hcz32_1
          try clear hcz35_0
          try clear hcz35_1
          try clear hcz37_0
          try clear hcz37_1
          try clear hcz37_2
          try clear hcz41_0
          try clear hcz41_1
          try clear hcz44_0
          try clear hcz44_1
          try clear hcz48_0
          try clear hcz48_1
          try clear hcz51_0
          try clear hcz51_1
          try clear hcz55_0
          try clear hcz55_1
          try clear hcz66_0
          try clear hcz66_1
          try clear hcz69_0
          try clear hcz69_1
          try clear hcz69_2
          try clear hcz73_0
          try clear hcz73_1
          try clear hcz76_0
          try clear hcz76_1
          try clear hcz76_2
          try clear hcz80_0
          try clear hcz80_1
          try clear hcz84_0
          try clear hcz84_1
          try clear hcz91_0
          try clear hcz91_1
          try clear hcz93_0
          try clear hcz93_1
          try clear hcz99_0
          try clear hcz99_1
          try clear hfz23_0
          try clear hfz23_1
          try clear hfz26_0
          try clear hfz26_1
          try clear hfz28_0
          try clear hfz28_1
          try clear hfz28_2
          try clear hfz32_0
          try clear hfz32_1
          try clear hfz35_0
          try clear hfz35_1
          try clear hfz37_0
          try clear hfz37_1
          try clear hfz37_2
          try clear hfz41_0
          try clear hfz41_1
          try clear hfz44_0
          try clear hfz44_1
          try clear hfz48_0
          try clear hfz48_1
          try clear hfz51_0
          try clear hfz51_1
          try clear hfz55_0
          try clear hfz55_1
          try clear hfz66_0
          try clear hfz66_1
          try clear hfz69_0
          try clear hfz69_1
          try clear hfz69_2
          try clear hfz73_0
          try clear hfz73_1
          try clear hfz76_0
          try clear hfz76_1
          try clear hfz76_2
          try clear hfz80_0
          try clear hfz80_1
          try clear hfz84_0
          try clear hfz84_1
          try clear hfz91_0
          try clear hfz91_1
          try clear hfz93_0
          try clear hfz93_1
          try clear hfz99_0
          try clear hfz99_1
          try clear p2
          obtain ⟨kq, x58_87, rfl, HA, HJ87, BK180, BK181, BK182, BK195, HB⟩ := hcut
          cases kq with
          | zero => exact absurd HA.out (by simp [spec_GateAsk.j1])
          | succ kj87 =>
            have H := HA.out
            clear HA
            simp only [spec_GateAsk.j1] at H
            by_cases c101 : x58_87 = true
            · subst c101
              have H1 : (some (0, 0, 2)) = some (r1, r2, r3) := by rw [if_pos rfl] at H; exact H
              clear H
              have H := H1
              clear H1
              simp only [Option.some.injEq, Prod.mk.injEq] at H
              obtain ⟨rfl, rfl, rfl⟩ := H
              go_wp2
              go_ret3
              exact ⟨er_, hb4_ HB.out GE180.out GE181.out GE182.out GE195.out⟩
            · replace c101 := Bool.eq_false_iff.mpr c101
              subst c101
              have H1 : ((spec_InSlot.f kj87 a4_0 a4_1 l4_2 a5 t192 t193).bind fun bt196 => (if bt196.2.2 = true then (some (bt196.1, bt196.2.1, 0)) else (some (0, 0, 2)))) = some (r1, r2, r3) := by rw [if_neg (show ¬ (false = true) by decide)] at H; exact H
              clear H
              have H := H1
              clear H1
              replace H := Option.bind_eq_some_iff.mp H
              obtain ⟨⟨t196, t197, t198⟩, A1020, H⟩ := H
              replace H : (if t198 = true then (some (t196, t197, 0)) else (some (0, 0, 2))) = some (r1, r2, r3) := H
              have A102 := Aside0.mk A1020
              clear A1020
              by_cases c103 : t198 = true
              · subst c103
                have H1 : (some (t196, t197, 0)) = some (r1, r2, r3) := by rw [if_pos rfl] at H; exact H
                clear H
                have H := H1
                clear H1
                simp only [Option.some.injEq, Prod.mk.injEq] at H
                obtain ⟨rfl, rfl, rfl⟩ := H
                have hnb104 := NB182_180.out
                have hnc104 := NB180_182.out
                have hnb105 := NB182_181.out
                have hnc105 := NB181_182.out
                have hnb106 := NB182_195.out
                have hnc106 := NB195_182.out
                have hcz107_0 := bc_ BK182.out 0 (.int .i64 a4_0) rfl
                have hcz107_1 := bc_ BK182.out 1 (.int .i64 a4_1) rfl
                have hcz107_2 := bc_ BK182.out 2 (.slice A4_2 l4_2.length c4_2) rfl
                have hfz107_0 := blk_frozen BK182.out 0
                have hfz107_1 := blk_frozen BK182.out 1
                have hfz107_2 := blk_frozen BK182.out 2
                have hnb108 := NB195_180.out
                have hnc108 := NB180_195.out
                have hnb109 := NB195_181.out
                have hnc109 := NB181_195.out
                have hcz110_0 := bc_ BK195.out 0 (.int .i64 t192) rfl
                have hcz110_1 := bc_ BK195.out 1 (.int .i64 t193) rfl
                have hfz110_0 := blk_frozen BK195.out 0
                have hfz110_1 := blk_frozen BK195.out 1
                go_wp2_with (first | ((with_reducible refine gate_callee (f := 41) rfl ?_); refine goesL_ (some 66) rfl rfl Try.func41 (by kernel_rfl) rfl #[.agg #[.int .i64 a4_0, .int .i64 a4_1, .slice A4_2 l4_2.length c4_2], .int .i64 a5, .int .i64 t192, .int .i64 t193] rfl arr_ ?_; (with_reducible refine (spec_InSlot.calls kj87 a4_0 a4_1 _ _ l4_2 a5 t192 t193 t196 t197 true _ ?side1 ?side2 A102.out).mono ?_); (case side1 => exact kc_ (Kd.C_below HR4_2.out HB.out)); (case side2 => exact HC4_2.out); rintro e w111 ⟨rfl, hb⟩; refine ⟨_, rfl, ?_⟩; have n0_ := Aside0.mk (bb_ BK180.out hb); have n1_ := Aside0.mk (bb_ BK181.out hb); have n2_ := Aside0.mk (bb_ BK182.out hb); have n3_ := Aside0.mk (bb_ BK195.out hb); have n4_ := Aside0.mk (below_step (hb4_ HB.out GE180.out GE181.out GE182.out GE195.out) hb); clear BK180; clear BK181; clear BK182; clear BK195; clear HB; have BK180 := n0_; have BK181 := n1_; have BK182 := n2_; have BK195 := n3_; have HB := n4_; clear n0_ n1_ n2_ n3_ n4_; (try clear hb); (try clear hb2); (try clear hk); (try clear hi)))
                go_ret3
                exact ⟨er_, hb4_ HB.out GE180.out GE181.out GE182.out GE195.out⟩
              · replace c103 := Bool.eq_false_iff.mpr c103
                subst c103
                have H1 : (some (0, 0, 2)) = some (r1, r2, r3) := by rw [if_neg (show ¬ (false = true) by decide)] at H; exact H
                clear H
                have H := H1
                clear H1
                simp only [Option.some.injEq, Prod.mk.injEq] at H
                obtain ⟨rfl, rfl, rfl⟩ := H
                have hnb112 := NB182_180.out
                have hnc112 := NB180_182.out
                have hnb113 := NB182_181.out
                have hnc113 := NB181_182.out
                have hnb114 := NB182_195.out
                have hnc114 := NB195_182.out
                have hcz115_0 := bc_ BK182.out 0 (.int .i64 a4_0) rfl
                have hcz115_1 := bc_ BK182.out 1 (.int .i64 a4_1) rfl
                have hcz115_2 := bc_ BK182.out 2 (.slice A4_2 l4_2.length c4_2) rfl
                have hfz115_0 := blk_frozen BK182.out 0
                have hfz115_1 := blk_frozen BK182.out 1
                have hfz115_2 := blk_frozen BK182.out 2
                have hnb116 := NB195_180.out
                have hnc116 := NB180_195.out
                have hnb117 := NB195_181.out
                have hnc117 := NB181_195.out
                have hcz118_0 := bc_ BK195.out 0 (.int .i64 t192) rfl
                have hcz118_1 := bc_ BK195.out 1 (.int .i64 t193) rfl
                have hfz118_0 := blk_frozen BK195.out 0
                have hfz118_1 := blk_frozen BK195.out 1
                go_wp2_with (first | ((with_reducible refine gate_callee (f := 41) rfl ?_); refine goesL_ (some 66) rfl rfl Try.func41 (by kernel_rfl) rfl #[.agg #[.int .i64 a4_0, .int .i64 a4_1, .slice A4_2 l4_2.length c4_2], .int .i64 a5, .int .i64 t192, .int .i64 t193] rfl arr_ ?_; (with_reducible refine (spec_InSlot.calls kj87 a4_0 a4_1 _ _ l4_2 a5 t192 t193 t196 t197 false _ ?side1 ?side2 A102.out).mono ?_); (case side1 => exact kc_ (Kd.C_below HR4_2.out HB.out)); (case side2 => exact HC4_2.out); rintro e w119 ⟨rfl, hb⟩; refine ⟨_, rfl, ?_⟩; have n0_ := Aside0.mk (bb_ BK180.out hb); have n1_ := Aside0.mk (bb_ BK181.out hb); have n2_ := Aside0.mk (bb_ BK182.out hb); have n3_ := Aside0.mk (bb_ BK195.out hb); have n4_ := Aside0.mk (below_step (hb4_ HB.out GE180.out GE181.out GE182.out GE195.out) hb); clear BK180; clear BK181; clear BK182; clear BK195; clear HB; have BK180 := n0_; have BK181 := n1_; have BK182 := n2_; have BK195 := n3_; have HB := n4_; clear n0_ n1_ n2_ n3_ n4_; (try clear hb); (try clear hb2); (try clear hk); (try clear hi)))
                go_ret3
                exact ⟨er_, hb4_ HB.out GE180.out GE181.out GE182.out GE195.out⟩
end Go.Proofs.Ytejohmompmjhnaa.P

namespace Go.Proofs.Ytejohmompmjhnaa.P
open Go.RowKit Go.Proofs.YtejohmompmjhnaaW.PrintWords Go.Proofs.YtejohmompmjhnaaW.PrintLast Go.Proofs.YtejohmompmjhnaaW.PrintMore
attribute [local go_sem] max2_int min2_int max_two min_two max_three min_three max_four min_four
set_option linter.unusedVariables false
set_option linter.unusedSimpArgs false
def laws_toIval.f (a0_0 : Int) (a0_1 : Int) : Option (Int × Int) := some (a0_0, a0_1)
set_option maxHeartbeats 8000000 in
set_option maxRecDepth 100000 in
theorem laws_toIval.calls (a0_0 : Int) (a0_1 : Int) (r1 : Int) (r2 : Int) (w : World) (h : laws_toIval.f a0_0 a0_1 = some (r1, r2)) :
    Calls Try.prog 11 #[.agg #[.int .i64 a0_0, .int .i64 a0_1]] w fun e w' => e = .returned (.agg #[.int .i64 r1, .int .i64 r2]) ∧ Below w.heap.size w w' := by
  have hu23 := Try.underlying23
  have hu32 := Try.underlying32
  have HB := Aside0.mk (Below.refl w.heap.size w)
  have H : (some (a0_0, a0_1)) = some (r1, r2) := h
  clear h
  simp only [Option.some.injEq, Prod.mk.injEq] at H
  obtain ⟨rfl, rfl⟩ := H
  go_enter Try.func11, Try.ntmps11
  go_wp2_with (first | ((with_reducible refine gate_dst (N := 1) rfl ?_); refine box_event ?hg (N := 1) ?hd (cs := #[.int .i64 a0_0, .int .i64 a0_1]) (t := 23) ?hr ?_; (case hd => rfl); (case hg => rfl); (case hr => first | (go_simp; done) | (go_simp; rfl)); intro gb199 hg w2 hbox hb; have n0_ := Aside0.mk (below_step (hb_ HB.out) hb); have n1_ := Aside0.mk (hbox); have n2_ := Aside0.mk ((by rw [hg]; exact (below_size (hb_ HB.out)) : w.heap.size ≤ gb199)); have n3_ := Aside0.mk ((by rw [hg]; exact (below_size (hb_ HB.out)) : w.heap.size ≤ gb199)); clear HB; have HB := n0_; have BK199 := n1_; have GW199 := n2_; have GE199 := n3_; clear n0_ n1_ n2_ n3_; clear hb hbox hg) | ((with_reducible refine gate_dst (N := 2) rfl ?_); refine box_event ?hg (N := 2) ?hd (cs := #[.int .i64 0, .int .i64 0]) (t := 32) ?hr ?_; (case hd => rfl); (case hg => rfl); (case hr => first | (go_simp; done) | (go_simp; rfl)); intro gb200 hg w3 hbox hb; have n0_ := Aside0.mk (bb_ BK199.out hb); have n1_ := Aside0.mk (below_step (hb1_ HB.out GE199.out) hb); have n2_ := Aside0.mk (hbox); have n3_ := Aside0.mk ((by rw [hg]; exact (below_size (hb1_ HB.out GE199.out)) : w.heap.size ≤ gb200)); have n4_ := Aside0.mk ((by rw [hg]; exact (below_size (hb1_ HB.out GE199.out)) : w.heap.size ≤ gb200)); have n5_ := Aside0.mk ((bl_ hg BK199.out : gb199 ≠ gb200)); have n6_ := Aside0.mk ((bg_ hg BK199.out : gb200 ≠ gb199)); clear BK199; clear HB; have BK199 := n0_; have HB := n1_; have BK200 := n2_; have GW200 := n3_; have GE200 := n4_; have NB199_200 := n5_; have NB200_199 := n6_; clear n0_ n1_ n2_ n3_ n4_ n5_ n6_; clear hb hbox hg) | ((with_reducible refine gate_dst (N := 3) rfl ?_); refine box_event ?hg (N := 3) ?hd (cs := #[.int .i64 0, .int .i64 0]) (t := 32) ?hr ?_; (case hd => rfl); (case hg => rfl); (case hr => first | (go_simp; done) | (go_simp; rfl)); intro gb201 hg w4 hbox hb; have n0_ := Aside0.mk (bb_ BK199.out hb); have n1_ := Aside0.mk (bb_ BK200.out hb); have n2_ := Aside0.mk (below_step (hb2_ HB.out GE199.out GE200.out) hb); have n3_ := Aside0.mk (hbox); have n4_ := Aside0.mk ((by rw [hg]; exact (below_size (hb2_ HB.out GE199.out GE200.out)) : w.heap.size ≤ gb201)); have n5_ := Aside0.mk ((by rw [hg]; exact (below_size (hb2_ HB.out GE199.out GE200.out)) : w.heap.size ≤ gb201)); have n6_ := Aside0.mk ((bl_ hg BK199.out : gb199 ≠ gb201)); have n7_ := Aside0.mk ((bg_ hg BK199.out : gb201 ≠ gb199)); have n8_ := Aside0.mk ((bl_ hg BK200.out : gb200 ≠ gb201)); have n9_ := Aside0.mk ((bg_ hg BK200.out : gb201 ≠ gb200)); clear BK199; clear BK200; clear HB; have BK199 := n0_; have BK200 := n1_; have HB := n2_; have BK201 := n3_; have GW201 := n4_; have GE201 := n5_; have NB199_201 := n6_; have NB201_199 := n7_; have NB200_201 := n8_; have NB201_200 := n9_; clear n0_ n1_ n2_ n3_ n4_ n5_ n6_ n7_ n8_ n9_; clear hb hbox hg; have hnb5 := NB199_200.out; have hnc5 := NB200_199.out; have hnb6 := NB199_201.out; have hnc6 := NB201_199.out; have hcz7_0 := bc_ BK199.out 0 (.int .i64 a0_0) rfl; have hcz7_1 := bc_ BK199.out 1 (.int .i64 a0_1) rfl; have hfz7_0 := blk_frozen BK199.out 0; have hfz7_1 := blk_frozen BK199.out 1; have hnb8 := NB201_200.out; have hnc8 := NB200_201.out; have hcz9_0 := bc_ BK201.out 0 (.int .i64 0) rfl; have hcz9_1 := bc_ BK201.out 1 (.int .i64 0) rfl; have hfz9_0 := blk_frozen BK201.out 0; have hfz9_1 := blk_frozen BK201.out 1; have hcz10_0 := bc_ BK200.out 0 (.int .i64 0) rfl; have hcz10_1 := bc_ BK200.out 1 (.int .i64 0) rfl; have hfz10_0 := blk_frozen BK200.out 0; have hfz10_1 := blk_frozen BK200.out 1))
  refine bodyPost_ret (results_cell_row rfl _ _ gb200 32 #[.int .i64 a0_0, .int .i64 a0_1] (0, 0) _ rfl (by (with_reducible repeat (first | refine blk_drewN ?_ _ | refine blk_drew ?_ | refine blk_alloc ?_ _)); refine blk_put (cs := #[.int .i64 a0_0, .int .i64 0]) ?_ 1 _ rfl; (with_reducible repeat (first | refine blk_drewN ?_ _ | refine blk_drew ?_ | refine blk_alloc ?_ _)); refine blk_put (cs := #[.int .i64 0, .int .i64 0]) ?_ 0 _ rfl; (with_reducible repeat (first | refine blk_drewN ?_ _ | refine blk_drew ?_ | refine blk_alloc ?_ _)); refine blk_far ?_ NB200_201.out _; (with_reducible repeat (first | refine blk_drewN ?_ _ | refine blk_drew ?_ | refine blk_alloc ?_ _)); refine blk_far ?_ NB200_201.out _; (with_reducible repeat (first | refine blk_drewN ?_ _ | refine blk_drew ?_ | refine blk_alloc ?_ _)); exact BK200.out) Try.underlying32 rfl (by kernel_rfl)) rfl ?_
  exact ⟨er_, hb3_ HB.out GE199.out GE200.out GE201.out⟩
def laws_toDrift.f (a0_0 : Int) (a0_1 : Int) : Option (Int × Int) := some (a0_0, a0_1)
set_option maxHeartbeats 8000000 in
set_option maxRecDepth 100000 in
theorem laws_toDrift.calls (a0_0 : Int) (a0_1 : Int) (r1 : Int) (r2 : Int) (w : World) (h : laws_toDrift.f a0_0 a0_1 = some (r1, r2)) :
    Calls Try.prog 12 #[.agg #[.int .i64 a0_0, .int .i64 a0_1]] w fun e w' => e = .returned (.agg #[.int .i64 r1, .int .i64 r2]) ∧ Below w.heap.size w w' := by
  have hu25 := Try.underlying25
  have hu34 := Try.underlying34
  have HB := Aside0.mk (Below.refl w.heap.size w)
  have H : (some (a0_0, a0_1)) = some (r1, r2) := h
  clear h
  simp only [Option.some.injEq, Prod.mk.injEq] at H
  obtain ⟨rfl, rfl⟩ := H
  go_enter Try.func12, Try.ntmps12
  go_wp2_with (first | ((with_reducible refine gate_dst (N := 1) rfl ?_); refine box_event ?hg (N := 1) ?hd (cs := #[.int .i64 a0_0, .int .i64 a0_1]) (t := 25) ?hr ?_; (case hd => rfl); (case hg => rfl); (case hr => first | (go_simp; done) | (go_simp; rfl)); intro gb202 hg w2 hbox hb; have n0_ := Aside0.mk (below_step (hb_ HB.out) hb); have n1_ := Aside0.mk (hbox); have n2_ := Aside0.mk ((by rw [hg]; exact (below_size (hb_ HB.out)) : w.heap.size ≤ gb202)); have n3_ := Aside0.mk ((by rw [hg]; exact (below_size (hb_ HB.out)) : w.heap.size ≤ gb202)); clear HB; have HB := n0_; have BK202 := n1_; have GW202 := n2_; have GE202 := n3_; clear n0_ n1_ n2_ n3_; clear hb hbox hg) | ((with_reducible refine gate_dst (N := 2) rfl ?_); refine box_event ?hg (N := 2) ?hd (cs := #[.int .i64 0, .int .i64 0]) (t := 34) ?hr ?_; (case hd => rfl); (case hg => rfl); (case hr => first | (go_simp; done) | (go_simp; rfl)); intro gb203 hg w3 hbox hb; have n0_ := Aside0.mk (bb_ BK202.out hb); have n1_ := Aside0.mk (below_step (hb1_ HB.out GE202.out) hb); have n2_ := Aside0.mk (hbox); have n3_ := Aside0.mk ((by rw [hg]; exact (below_size (hb1_ HB.out GE202.out)) : w.heap.size ≤ gb203)); have n4_ := Aside0.mk ((by rw [hg]; exact (below_size (hb1_ HB.out GE202.out)) : w.heap.size ≤ gb203)); have n5_ := Aside0.mk ((bl_ hg BK202.out : gb202 ≠ gb203)); have n6_ := Aside0.mk ((bg_ hg BK202.out : gb203 ≠ gb202)); clear BK202; clear HB; have BK202 := n0_; have HB := n1_; have BK203 := n2_; have GW203 := n3_; have GE203 := n4_; have NB202_203 := n5_; have NB203_202 := n6_; clear n0_ n1_ n2_ n3_ n4_ n5_ n6_; clear hb hbox hg) | ((with_reducible refine gate_dst (N := 3) rfl ?_); refine box_event ?hg (N := 3) ?hd (cs := #[.int .i64 0, .int .i64 0]) (t := 34) ?hr ?_; (case hd => rfl); (case hg => rfl); (case hr => first | (go_simp; done) | (go_simp; rfl)); intro gb204 hg w4 hbox hb; have n0_ := Aside0.mk (bb_ BK202.out hb); have n1_ := Aside0.mk (bb_ BK203.out hb); have n2_ := Aside0.mk (below_step (hb2_ HB.out GE202.out GE203.out) hb); have n3_ := Aside0.mk (hbox); have n4_ := Aside0.mk ((by rw [hg]; exact (below_size (hb2_ HB.out GE202.out GE203.out)) : w.heap.size ≤ gb204)); have n5_ := Aside0.mk ((by rw [hg]; exact (below_size (hb2_ HB.out GE202.out GE203.out)) : w.heap.size ≤ gb204)); have n6_ := Aside0.mk ((bl_ hg BK202.out : gb202 ≠ gb204)); have n7_ := Aside0.mk ((bg_ hg BK202.out : gb204 ≠ gb202)); have n8_ := Aside0.mk ((bl_ hg BK203.out : gb203 ≠ gb204)); have n9_ := Aside0.mk ((bg_ hg BK203.out : gb204 ≠ gb203)); clear BK202; clear BK203; clear HB; have BK202 := n0_; have BK203 := n1_; have HB := n2_; have BK204 := n3_; have GW204 := n4_; have GE204 := n5_; have NB202_204 := n6_; have NB204_202 := n7_; have NB203_204 := n8_; have NB204_203 := n9_; clear n0_ n1_ n2_ n3_ n4_ n5_ n6_ n7_ n8_ n9_; clear hb hbox hg; have hnb5 := NB202_203.out; have hnc5 := NB203_202.out; have hnb6 := NB202_204.out; have hnc6 := NB204_202.out; have hcz7_0 := bc_ BK202.out 0 (.int .i64 a0_0) rfl; have hcz7_1 := bc_ BK202.out 1 (.int .i64 a0_1) rfl; have hfz7_0 := blk_frozen BK202.out 0; have hfz7_1 := blk_frozen BK202.out 1; have hnb8 := NB204_203.out; have hnc8 := NB203_204.out; have hcz9_0 := bc_ BK204.out 0 (.int .i64 0) rfl; have hcz9_1 := bc_ BK204.out 1 (.int .i64 0) rfl; have hfz9_0 := blk_frozen BK204.out 0; have hfz9_1 := blk_frozen BK204.out 1; have hcz10_0 := bc_ BK203.out 0 (.int .i64 0) rfl; have hcz10_1 := bc_ BK203.out 1 (.int .i64 0) rfl; have hfz10_0 := blk_frozen BK203.out 0; have hfz10_1 := blk_frozen BK203.out 1))
  refine bodyPost_ret (results_cell_row rfl _ _ gb203 34 #[.int .i64 a0_0, .int .i64 a0_1] (0, 0) _ rfl (by (with_reducible repeat (first | refine blk_drewN ?_ _ | refine blk_drew ?_ | refine blk_alloc ?_ _)); refine blk_put (cs := #[.int .i64 a0_0, .int .i64 0]) ?_ 1 _ rfl; (with_reducible repeat (first | refine blk_drewN ?_ _ | refine blk_drew ?_ | refine blk_alloc ?_ _)); refine blk_put (cs := #[.int .i64 0, .int .i64 0]) ?_ 0 _ rfl; (with_reducible repeat (first | refine blk_drewN ?_ _ | refine blk_drew ?_ | refine blk_alloc ?_ _)); refine blk_far ?_ NB203_204.out _; (with_reducible repeat (first | refine blk_drewN ?_ _ | refine blk_drew ?_ | refine blk_alloc ?_ _)); refine blk_far ?_ NB203_204.out _; (with_reducible repeat (first | refine blk_drewN ?_ _ | refine blk_drew ?_ | refine blk_alloc ?_ _)); exact BK203.out) Try.underlying34 rfl (by kernel_rfl)) rfl ?_
  exact ⟨er_, hb3_ HB.out GE202.out GE203.out GE204.out⟩
def laws_toSlot.f (a0_0 : Int) (a0_1 : Int) : Option (Int × Int) := some (a0_0, a0_1)
set_option maxHeartbeats 8000000 in
set_option maxRecDepth 100000 in
theorem laws_toSlot.calls (a0_0 : Int) (a0_1 : Int) (r1 : Int) (r2 : Int) (w : World) (h : laws_toSlot.f a0_0 a0_1 = some (r1, r2)) :
    Calls Try.prog 84 #[.agg #[.int .i64 a0_0, .int .i64 a0_1]] w fun e w' => e = .returned (.agg #[.int .i64 r1, .int .i64 r2]) ∧ Below w.heap.size w w' := by
  have hu104 := Try.underlying104
  have hu55 := Try.underlying55
  have HB := Aside0.mk (Below.refl w.heap.size w)
  have H : (some (a0_0, a0_1)) = some (r1, r2) := h
  clear h
  simp only [Option.some.injEq, Prod.mk.injEq] at H
  obtain ⟨rfl, rfl⟩ := H
  go_enter Try.func84, Try.ntmps84
  go_wp2_with (first | ((with_reducible refine gate_dst (N := 1) rfl ?_); refine box_event ?hg (N := 1) ?hd (cs := #[.int .i64 a0_0, .int .i64 a0_1]) (t := 104) ?hr ?_; (case hd => rfl); (case hg => rfl); (case hr => first | (go_simp; done) | (go_simp; rfl)); intro gb205 hg w2 hbox hb; have n0_ := Aside0.mk (below_step (hb_ HB.out) hb); have n1_ := Aside0.mk (hbox); have n2_ := Aside0.mk ((by rw [hg]; exact (below_size (hb_ HB.out)) : w.heap.size ≤ gb205)); have n3_ := Aside0.mk ((by rw [hg]; exact (below_size (hb_ HB.out)) : w.heap.size ≤ gb205)); clear HB; have HB := n0_; have BK205 := n1_; have GW205 := n2_; have GE205 := n3_; clear n0_ n1_ n2_ n3_; clear hb hbox hg) | ((with_reducible refine gate_dst (N := 2) rfl ?_); refine box_event ?hg (N := 2) ?hd (cs := #[.int .i64 0, .int .i64 0]) (t := 55) ?hr ?_; (case hd => rfl); (case hg => rfl); (case hr => first | (go_simp; done) | (go_simp; rfl)); intro gb206 hg w3 hbox hb; have n0_ := Aside0.mk (bb_ BK205.out hb); have n1_ := Aside0.mk (below_step (hb1_ HB.out GE205.out) hb); have n2_ := Aside0.mk (hbox); have n3_ := Aside0.mk ((by rw [hg]; exact (below_size (hb1_ HB.out GE205.out)) : w.heap.size ≤ gb206)); have n4_ := Aside0.mk ((by rw [hg]; exact (below_size (hb1_ HB.out GE205.out)) : w.heap.size ≤ gb206)); have n5_ := Aside0.mk ((bl_ hg BK205.out : gb205 ≠ gb206)); have n6_ := Aside0.mk ((bg_ hg BK205.out : gb206 ≠ gb205)); clear BK205; clear HB; have BK205 := n0_; have HB := n1_; have BK206 := n2_; have GW206 := n3_; have GE206 := n4_; have NB205_206 := n5_; have NB206_205 := n6_; clear n0_ n1_ n2_ n3_ n4_ n5_ n6_; clear hb hbox hg) | ((with_reducible refine gate_dst (N := 3) rfl ?_); refine box_event ?hg (N := 3) ?hd (cs := #[.int .i64 0, .int .i64 0]) (t := 55) ?hr ?_; (case hd => rfl); (case hg => rfl); (case hr => first | (go_simp; done) | (go_simp; rfl)); intro gb207 hg w4 hbox hb; have n0_ := Aside0.mk (bb_ BK205.out hb); have n1_ := Aside0.mk (bb_ BK206.out hb); have n2_ := Aside0.mk (below_step (hb2_ HB.out GE205.out GE206.out) hb); have n3_ := Aside0.mk (hbox); have n4_ := Aside0.mk ((by rw [hg]; exact (below_size (hb2_ HB.out GE205.out GE206.out)) : w.heap.size ≤ gb207)); have n5_ := Aside0.mk ((by rw [hg]; exact (below_size (hb2_ HB.out GE205.out GE206.out)) : w.heap.size ≤ gb207)); have n6_ := Aside0.mk ((bl_ hg BK205.out : gb205 ≠ gb207)); have n7_ := Aside0.mk ((bg_ hg BK205.out : gb207 ≠ gb205)); have n8_ := Aside0.mk ((bl_ hg BK206.out : gb206 ≠ gb207)); have n9_ := Aside0.mk ((bg_ hg BK206.out : gb207 ≠ gb206)); clear BK205; clear BK206; clear HB; have BK205 := n0_; have BK206 := n1_; have HB := n2_; have BK207 := n3_; have GW207 := n4_; have GE207 := n5_; have NB205_207 := n6_; have NB207_205 := n7_; have NB206_207 := n8_; have NB207_206 := n9_; clear n0_ n1_ n2_ n3_ n4_ n5_ n6_ n7_ n8_ n9_; clear hb hbox hg; have hnb5 := NB205_206.out; have hnc5 := NB206_205.out; have hnb6 := NB205_207.out; have hnc6 := NB207_205.out; have hcz7_0 := bc_ BK205.out 0 (.int .i64 a0_0) rfl; have hcz7_1 := bc_ BK205.out 1 (.int .i64 a0_1) rfl; have hfz7_0 := blk_frozen BK205.out 0; have hfz7_1 := blk_frozen BK205.out 1; have hnb8 := NB207_206.out; have hnc8 := NB206_207.out; have hcz9_0 := bc_ BK207.out 0 (.int .i64 0) rfl; have hcz9_1 := bc_ BK207.out 1 (.int .i64 0) rfl; have hfz9_0 := blk_frozen BK207.out 0; have hfz9_1 := blk_frozen BK207.out 1; have hcz10_0 := bc_ BK206.out 0 (.int .i64 0) rfl; have hcz10_1 := bc_ BK206.out 1 (.int .i64 0) rfl; have hfz10_0 := blk_frozen BK206.out 0; have hfz10_1 := blk_frozen BK206.out 1))
  refine bodyPost_ret (results_cell_row rfl _ _ gb206 55 #[.int .i64 a0_0, .int .i64 a0_1] (0, 0) _ rfl (by (with_reducible repeat (first | refine blk_drewN ?_ _ | refine blk_drew ?_ | refine blk_alloc ?_ _)); refine blk_put (cs := #[.int .i64 a0_0, .int .i64 0]) ?_ 1 _ rfl; (with_reducible repeat (first | refine blk_drewN ?_ _ | refine blk_drew ?_ | refine blk_alloc ?_ _)); refine blk_put (cs := #[.int .i64 0, .int .i64 0]) ?_ 0 _ rfl; (with_reducible repeat (first | refine blk_drewN ?_ _ | refine blk_drew ?_ | refine blk_alloc ?_ _)); refine blk_far ?_ NB206_207.out _; (with_reducible repeat (first | refine blk_drewN ?_ _ | refine blk_drew ?_ | refine blk_alloc ?_ _)); refine blk_far ?_ NB206_207.out _; (with_reducible repeat (first | refine blk_drewN ?_ _ | refine blk_drew ?_ | refine blk_alloc ?_ _)); exact BK206.out) Try.underlying55 rfl (by kernel_rfl)) rfl ?_
  exact ⟨er_, hb3_ HB.out GE205.out GE206.out GE207.out⟩
def laws_toSlotS.l0 : Nat → List (S104) → List (S55) → Int → Option ((List (S55)))
  | 0, _, _, _ => none
  | k + 1, x0, x3, x4 => if x4 < (x0.length : Int) then (if 0 ≤ x4 then ((laws_toSlot.f ((rd_T104 x0 x4).f0) ((rd_T104 x0 x4).f1)).bind fun bt212 => (if x4 < (x3.length : Int) then (laws_toSlotS.l0 k x0 (x3.set (x4 : Int).toNat (⟨bt212.1, bt212.2⟩ : S55)) (wrap64 (x4 + 1))) else (none))) else (none)) else (some x3)
def laws_toSlotS.f (k : Nat) (l0 : List (S104)) : Option ((List (S55))) := if 0 ≤ (l0.length : Int) then (if ((l0.length : Int) : Int).toNat ≤ 17592186044416 then (laws_toSlotS.l0 k l0 (List.replicate ((l0.length : Int) : Int).toNat z55) 0) else (none)) else (none)
theorem laws_toSlotS.mono_l : ∀ k, (∀ y0 y1 y2, LeO (laws_toSlotS.l0 k y0 y1 y2) (laws_toSlotS.l0 (k + 1) y0 y1 y2))
  | 0 => fun _ _ _ r h => by simp [laws_toSlotS.l0] at h
  | k + 1 => by
    have ih0 := laws_toSlotS.mono_l k
    · intro y0 y1 y2
      unfold laws_toSlotS.l0
      repeat' first
      | (with_reducible exact ih0 _ _ _)
      | (with_reducible exact LeO.refl _)
      | (with_reducible exact LeO.none _)
      | (with_reducible refine LeO.ite ?_ ?_)
      | (with_reducible refine LeO.bind ?_ (fun _ => ?_))
      | exact ih0 _ _ _
      | exact LeO.none _
      | refine LeO.ite ?_ ?_
      | refine LeO.bind ?_ (fun _ => ?_)
theorem laws_toSlotS.mono : ∀ a0 k, LeO (laws_toSlotS.f k a0) (laws_toSlotS.f (k + 1) a0) := by
  intro a0 k
  have ih0 := laws_toSlotS.mono_l k
  unfold laws_toSlotS.f
  repeat' first
      | (with_reducible exact ih0 _ _ _)
      | (with_reducible exact LeO.refl _)
      | (with_reducible exact LeO.none _)
      | (with_reducible refine LeO.ite ?_ ?_)
      | (with_reducible refine LeO.bind ?_ (fun _ => ?_))
      | exact ih0 _ _ _
      | exact LeO.none _
      | refine LeO.ite ?_ ?_
      | refine LeO.bind ?_ (fun _ => ?_)
set_option maxHeartbeats 8000000 in
set_option maxRecDepth 100000 in
theorem laws_toSlotS.calls (k : Nat) (A0 : Option Addr) (c0 : Nat) (l0 : List (S104)) (r : List (S55)) (w : World) (hr0 : Kd.C k104 w A0 l0.length l0) (hc0 : l0.length ≤ c0) (h : laws_toSlotS.f k l0 = some r) :
    Calls Try.prog 42 #[.slice A0 l0.length c0] w fun e w' => ∃ v0_ : Value, e = .returned (v0_) ∧ Kd.R k55 55 w' w.heap.size (fun _ => True) v0_ r ∧ Below w.heap.size w w' := by
  have hu104 := Try.underlying104
  have hu55 := Try.underlying55
  have HR0 := Aside0.mk hr0
  have HC0 := Aside0.mk hc0
  clear hr0 hc0
  have HB := Aside0.mk (Below.refl w.heap.size w)
  have H : (if 0 ≤ (l0.length : Int) then (if ((l0.length : Int) : Int).toNat ≤ 17592186044416 then (laws_toSlotS.l0 k l0 (List.replicate ((l0.length : Int) : Int).toNat z55) 0) else (none)) else (none)) = some r := h
  clear h
  by_cases c2 : 0 ≤ (l0.length : Int)
  · rw [if_pos c2] at H
    have c2b0 := eq_true c2
    have c2b1 : decide (0 ≤ (l0.length : Int)) = true := decide_eq_true c2
    clear c2
    by_cases c3 : ((l0.length : Int) : Int).toNat ≤ 17592186044416
    · rw [if_pos c3] at H
      have c3b0 := eq_true c3
      have c3b1 : decide (((l0.length : Int) : Int).toNat ≤ 17592186044416) = true := decide_eq_true c3
      clear c3
      obtain ⟨y208, hy208⟩ : ∃ y_ : List (S55), y_ = (List.replicate ((l0.length : Int) : Int).toNat z55) := ⟨_, rfl⟩
      replace H : (laws_toSlotS.l0 k l0 y208 0) = some r := by first | (rw [hy208]; with_reducible exact H) | (have H2_ := (Option.bind_some _ _).symm.trans H; rw [hy208]; with_reducible exact H2_) | (have H2_ := (Option.bind_some _ _).symm.trans H; with_reducible exact H2_) | with_reducible exact H | (rw [hy208]; exact H) | exact H
      have Ny208 := Aside0.mk hy208
      clear hy208
      have H' := Aside0.mk H
      clear H
      go_enter Try.func42, Try.ntmps42
      go_wp2_with (first | ((with_reducible refine gate_dst (N := 7) rfl ?_); refine Kd.R_make k55 _ 55 rfl (N := 7) rfl 36 _ _ rfl (l0.length : Int) rfl rfl Try.underlying36 (.agg #[(.int .i64 0), (.int .i64 0)]) 16 info55 rfl (by decide) (by omega) z55 (ok := fun _ => True) (okp := fun _ => True) (k55_mkM _ _ _ z55 ) (fun _ hk => hk) trivial (of_decide_eq_true (by first | (with_reducible assumption) | assumption)) (Nat.le_trans (Nat.mul_le_mul_right _ (of_decide_eq_true (by first | (with_reducible assumption) | assumption) : (l0.length : Int).toNat ≤ 17592186044416)) (by omega)) (Below.refl _ _) (Nat.le_refl _) ?_; intro v209 w4 ho5 hb hg_ hnew_; clear hg_ hnew_; (first | rw [← Ny208.out] at ho5 | (simp only [Int.reduceToNat] at ho5; rw [← Ny208.out] at ho5)); have n0_ := Aside0.mk (Kd.R_lower ho5 (below_size (hb_ HB.out))); have n1_ := Aside0.mk (below_step (hb_ HB.out) hb); clear HB; have HO210 := n0_; have HB := n1_; clear n0_ n1_; clear hb ho5))
      go_loopg [4] k (fun kq v4 w' => ∃ (x3_1 : List (S55)) (x4_1 : Int), v4 = .int .i64 x4_1 ∧ Aside0 (laws_toSlotS.l0 kq l0 x3_1 x4_1 = some r) ∧ Aside0 (kq ≤ k) ∧ Aside0 (Kd.R k55 55 w' w.heap.size (fun _ => True) v209 x3_1) ∧ Aside0 (Below w.heap.size w w'))
      case atStart => exact ⟨(y208), (0), (by first | rfl | (simp; done) | (simp [*]; done)), H', ⟨Nat.le_refl _⟩, ⟨by (with_reducible repeat (first | apply Kd.R_alloc | apply Kd.R_drewN | apply Kd.R_drew)); exact HO210.out⟩, ⟨hb_ HB.out⟩⟩
      case round =>
        clear H'
        try clear c2
        try clear c2b0
        try clear c2b1
        try clear p2
        try clear c3
        try clear c3b0
        try clear c3b1
        try clear c4
        obtain ⟨x3_1, x4_1, rfl, HA, HK1, HO_3, HB⟩ := hrel
        cases gk with
        | zero => exact absurd HA.out (by simp [laws_toSlotS.l0])
        | succ k1 =>
          have H := HA.out
          clear HA
          simp only [laws_toSlotS.l0] at H
          by_cases c6 : x4_1 < (l0.length : Int)
          · rw [if_pos c6] at H
            have c6b0 : decide (x4_1 < (l0.length : Int)) = true := decide_eq_true c6
            clear c6
            by_cases c7 : 0 ≤ x4_1
            · rw [if_pos c7] at H
              have c7b0 : decide (0 ≤ x4_1) = true := decide_eq_true c7
              clear c7
              replace H := Option.bind_eq_some_iff.mp H
              obtain ⟨⟨t212, t213⟩, A80, H⟩ := H
              replace H : (if x4_1 < (x3_1.length : Int) then (laws_toSlotS.l0 k1 l0 (x3_1.set (x4_1 : Int).toNat (⟨t212, t213⟩ : S55)) (wrap64 (x4_1 + 1))) else (none)) = some r := H
              have A8 := Aside0.mk A80
              clear A80
              by_cases c9 : x4_1 < (x3_1.length : Int)
              · rw [if_pos c9] at H
                have c9b0 : decide (x4_1 < (x3_1.length : Int)) = true := decide_eq_true c9
                clear c9
                obtain ⟨y214, hy214⟩ : ∃ y_ : List (S55), y_ = (x3_1.set (x4_1 : Int).toNat (⟨t212, t213⟩ : S55)) := ⟨_, rfl⟩
                replace H : (laws_toSlotS.l0 k1 l0 y214 (wrap64 (x4_1 + 1))) = some r := by first | (rw [hy214]; with_reducible exact H) | (have H2_ := (Option.bind_some _ _).symm.trans H; rw [hy214]; with_reducible exact H2_) | (have H2_ := (Option.bind_some _ _).symm.trans H; with_reducible exact H2_) | with_reducible exact H | (rw [hy214]; exact H) | exact H
                have Ny214 := Aside0.mk hy214
                clear hy214
                have H' := Aside0.mk H
                clear H
                have p211 : 0 ≤ (x4_1 : Int) := of_decide_eq_true (by first | (with_reducible assumption) | assumption)
                have q211 : x4_1 < (l0.length : Int) := of_decide_eq_true (by first | (with_reducible assumption) | assumption)
                obtain ⟨ad211, e211, hx211_0, hx211_1⟩ := at_T104 HR0.out x4_1 p211 q211
                cases e211
                replace hx211_0 := (HB.out.cell (World.block_lt_of_cell? w _ hx211_0)).trans hx211_0
                replace hx211_1 := (HB.out.cell (World.block_lt_of_cell? w _ hx211_1)).trans hx211_1
                replace p211 := eq_true p211
                replace q211 := eq_true q211
                go_wp2_with (first | ((with_reducible refine gate_callee (f := 84) rfl ?_); refine goesL_ (some 20) rfl rfl Try.func84 (by kernel_rfl) rfl #[.agg #[.int .i64 ((rd_T104 l0 x4_1).f0), .int .i64 ((rd_T104 l0 x4_1).f1)]] rfl arr_ ?_; (with_reducible refine (laws_toSlot.calls ((rd_T104 l0 x4_1).f0) ((rd_T104 l0 x4_1).f1) t212 t213 _ A8.out).mono ?_); rintro e w11 ⟨rfl, hb⟩; refine ⟨_, rfl, ?_⟩; have n0_ := Aside0.mk (Kd.R_below (by (with_reducible repeat (first | apply Kd.R_alloc | apply Kd.R_drewN | apply Kd.R_drew)); exact HO_3.out) hb); have n1_ := Aside0.mk (below_step (hb_ HB.out) hb); clear HO_3; clear HB; have HO_3 := n0_; have HB := n1_; clear n0_ n1_; (try clear hb); (try clear hb2); (try clear hk); (try clear hi); have p10 : 0 ≤ (x4_1 : Int) := of_decide_eq_true (by first | (with_reducible assumption) | assumption); have q10 : (x4_1 : Int) < ((x3_1.length : Int) : Int) := of_decide_eq_true (by first | (with_reducible assumption) | assumption); obtain ⟨go10, co10, eo10, gb10, gl10, cl10, HG10⟩ := Kd.R_form HO_3.out (by omega); (first | cases eo10 | (injection eo10 with ea_ en_ ec_; (first | subst ea_ | (injection ea_ with ea_; subst ea_)); subst ec_; clear en_)); have GB10 := Aside0.mk gb10; have GG10 := Aside0.mk HG10; clear gb10 gl10 HG10; obtain ⟨ce10, hcl10, hM10, hcc10, hfr10⟩ := Kd.R_elem HO_3.out z55 (x4_1 : Int) p10 q10; obtain rfl := k55_openM hM10; have hx10_0 : w11.cell? ⟨go10, (x4_1 : Int).toNat * 2, none⟩ = some (.int .i64 ((rd_T55 x3_1 x4_1).f0)) := hcc10 0 _ rfl; have hx10_1 : w11.cell? ⟨go10, (x4_1 : Int).toNat * 2 + 1, none⟩ = some (.int .i64 ((rd_T55 x3_1 x4_1).f1)) := hcc10 1 _ rfl; have hf10_0 : w11.frozen? ⟨go10, (x4_1 : Int).toNat * 2, none⟩ = false := hfr10 0; have hf10_1 : w11.frozen? ⟨go10, (x4_1 : Int).toNat * 2 + 1, none⟩ = false := hfr10 1; clear hcl10 hcc10 hfr10 hM10; replace p10 := eq_true p10; replace q10 := eq_true q10; have HX12 := Aside0.mk (show Kd.R k55 55 w11 w.heap.size (fun _ => True) (.slice (some ⟨go10, 0, none⟩) x3_1.length co10) x3_1 from (by (with_reducible repeat (first | apply Kd.R_alloc | apply Kd.R_drewN | apply Kd.R_drew)); exact HO_3.out)); obtain ⟨ce12, hcl12, hM12, hcc12, hfr12⟩ := Kd.R_elem HX12.out z55 (x4_1 : Int) (of_decide_eq_true (by first | (with_reducible assumption) | assumption)) (by have h_ : (x4_1 : Int) < ((x3_1.length : Int) : Int) := of_decide_eq_true (by first | (with_reducible assumption) | assumption); first | exact h_ | (have e_ := (Kd.R_reads' HO_3.out).1; omega) | simpa using h_); obtain rfl := k55_openM hM12; have HP12 := Kd.R_seg HX12.out (x4_1 : Int) (of_decide_eq_true (by first | (with_reducible assumption) | assumption)) (by have h_ : (x4_1 : Int) < ((x3_1.length : Int) : Int) := of_decide_eq_true (by first | (with_reducible assumption) | assumption); first | exact h_ | (have e_ := (Kd.R_reads' HO_3.out).1; omega) | simpa using h_) (seg := [.int .i64 t212, .int .i64 t213]) (j := 0) hcl12 hcc12 (show 2 ≤ 2 from by decide) (x' := (⟨t212, t213⟩ : S55)) (k55_mkM _ _ _ (⟨t212, t213⟩ : S55) ) (fun _ hk => hk); have hx12_0 := hcc12 0 _ rfl; (try simp only [show (k55).sz = 2 from rfl, Nat.mul_one, Nat.add_zero] at hx12_0); have hf12_0 := hfr12 0; (try simp only [show (k55).sz = 2 from rfl, Nat.mul_one, Nat.add_zero] at hf12_0); have hx12_1 := hcc12 1 _ rfl; (try simp only [show (k55).sz = 2 from rfl, Nat.mul_one, Nat.add_zero] at hx12_1); have hf12_1 := hfr12 1; (try simp only [show (k55).sz = 2 from rfl, Nat.mul_one, Nat.add_zero] at hf12_1); clear hcl12 hcc12 hfr12 hM12) | ((with_reducible refine gate_store (t := 55) (p := 21) rfl ?_); refine store_event (t := 55) (p := 21) (v := ?vo_w13) (w1 := ((w11.setCell ⟨go10, (x4_1 : Int).toNat * 2, none⟩ (.int .i64 t212)).setCell ⟨go10, (x4_1 : Int).toNat * 2 + 1, none⟩ (.int .i64 t213))) ?hg ?ho ?hn ?hr ?_; (case ho => rfl); (case hg => rfl); (case hn => rfl); (case hr => first | (go_simp; done) | (go_simp; rfl)); intro w13 hw; have hg : w11.grownBy w13 (some go10) := (by rw [hw]; exact HP12.2); have hp_ : Kd.R k55 55 w13 w.heap.size (fun _ => True) (.slice (some ⟨go10, 0, none⟩) x3_1.length co10) y214 := (by rw [hw, Ny214.out]; exact HP12.1); clear HP12; have n0_ := Aside0.mk (hp_); have n1_ := Aside0.mk ((by rw [hw]; exact below_set (below_set (HB.out) GB10.out) GB10.out : Below w.heap.size w w13)); clear HO_3; clear HB; have HO_3 := n0_; have HB := n1_; clear n0_ n1_; clear hg hw hp_))
                go_roundg k1
                case measure => have := HK1.out; omega
                case rel => exact ⟨(y214), (wrap64 (x4_1 + 1)), (by first | rfl | (simp; done) | (simp [*]; done)), H', ⟨by have := HK1.out; omega⟩, ⟨by (with_reducible repeat (first | apply Kd.R_alloc | apply Kd.R_drewN | apply Kd.R_drew)); exact HO_3.out⟩, ⟨hb_ HB.out⟩⟩
              · rw [if_neg c9] at H
                exact absurd H (by simp)
            · rw [if_neg c7] at H
              exact absurd H (by simp)
          · rw [if_neg c6] at H
            have c6b0 : decide (x4_1 < (l0.length : Int)) = false := decide_eq_false c6
            clear c6
            obtain rfl := Option.some.inj H
            go_wp2
            go_ret
            exact ⟨_, er_, by (with_reducible repeat (first | apply Kd.R_alloc | apply Kd.R_drewN | apply Kd.R_drew)); exact HO_3.out, hb_ HB.out⟩
    · rw [if_neg c3] at H
      exact absurd H (by simp)
  · rw [if_neg c2] at H
    exact absurd H (by simp)
def laws_toPlan.f (k : Nat) (a0_0 : Int) (a0_1 : Int) (l0_2 : List (S104)) : Option (Int × Int × (List (S55))) := (laws_toSlotS.f k l0_2).bind fun t218 => (some (a0_0, a0_1, t218))
theorem laws_toPlan.mono : ∀ a0 a1 a2 k, LeO (laws_toPlan.f k a0 a1 a2) (laws_toPlan.f (k + 1) a0 a1 a2) := by
  intro a0 a1 a2 k
  unfold laws_toPlan.f
  repeat' first
      | (with_reducible exact laws_toSlotS.mono _ _)
      | (with_reducible exact LeO.refl _)
      | (with_reducible exact LeO.none _)
      | (with_reducible refine LeO.ite ?_ ?_)
      | (with_reducible refine LeO.bind ?_ (fun _ => ?_))
      | exact laws_toSlotS.mono _ _
      | exact LeO.none _
      | refine LeO.ite ?_ ?_
      | refine LeO.bind ?_ (fun _ => ?_)
set_option maxHeartbeats 8000000 in
set_option maxRecDepth 100000 in
theorem laws_toPlan.calls (k : Nat) (a0_0 : Int) (a0_1 : Int) (A0_2 : Option Addr) (c0_2 : Nat) (l0_2 : List (S104)) (r1 : Int) (r2 : Int) (r3 : List (S55)) (w : World) (hr0_2 : Kd.C k104 w A0_2 l0_2.length l0_2) (hc0_2 : l0_2.length ≤ c0_2) (h : laws_toPlan.f k a0_0 a0_1 l0_2 = some (r1, r2, r3)) :
    Calls Try.prog 13 #[.agg #[.int .i64 a0_0, .int .i64 a0_1, .slice A0_2 l0_2.length c0_2]] w fun e w' => ∃ v2_ : Value, e = .returned (.agg #[.int .i64 r1, .int .i64 r2, v2_]) ∧ Kd.R k55 55 w' w.heap.size (fun _ => True) v2_ r3 ∧ Below w.heap.size w w' := by
  have hu28 := Try.underlying28
  have hu38 := Try.underlying38
  have HR0_2 := Aside0.mk hr0_2
  have HC0_2 := Aside0.mk hc0_2
  clear hr0_2 hc0_2
  have HB := Aside0.mk (Below.refl w.heap.size w)
  have H : ((laws_toSlotS.f k l0_2).bind fun t218 => (some (a0_0, a0_1, t218))) = some (r1, r2, r3) := h
  clear h
  replace H := Option.bind_eq_some_iff.mp H
  obtain ⟨t218, A20, H⟩ := H
  replace H : (some (a0_0, a0_1, t218)) = some (r1, r2, r3) := H
  have A2 := Aside0.mk A20
  clear A20
  simp only [Option.some.injEq, Prod.mk.injEq] at H
  obtain ⟨rfl, rfl, rfl⟩ := H
  go_enter Try.func13, Try.ntmps13
  go_wp2_with (first | ((with_reducible refine gate_dst (N := 1) rfl ?_); refine box_event ?hg (N := 1) ?hd (cs := #[.int .i64 a0_0, .int .i64 a0_1, .slice A0_2 l0_2.length c0_2]) (t := 28) ?hr ?_; (case hd => rfl); (case hg => rfl); (case hr => first | (go_simp; done) | (go_simp; rfl)); intro gb215 hg w3 hbox hb; have n0_ := Aside0.mk (below_step (hb_ HB.out) hb); have n1_ := Aside0.mk (hbox); have n2_ := Aside0.mk ((by rw [hg]; exact (below_size (hb_ HB.out)) : w.heap.size ≤ gb215)); have n3_ := Aside0.mk ((by rw [hg]; exact (below_size (hb_ HB.out)) : w.heap.size ≤ gb215)); clear HB; have HB := n0_; have BK215 := n1_; have GW215 := n2_; have GE215 := n3_; clear n0_ n1_ n2_ n3_; clear hb hbox hg) | ((with_reducible refine gate_dst (N := 2) rfl ?_); refine box_event ?hg (N := 2) ?hd (cs := #[.int .i64 0, .int .i64 0, .slice none 0 0]) (t := 38) ?hr ?_; (case hd => rfl); (case hg => rfl); (case hr => first | (go_simp; done) | (go_simp; rfl)); intro gb216 hg w4 hbox hb; have n0_ := Aside0.mk (bb_ BK215.out hb); have n1_ := Aside0.mk (below_step (hb1_ HB.out GE215.out) hb); have n2_ := Aside0.mk (hbox); have n3_ := Aside0.mk ((by rw [hg]; exact (below_size (hb1_ HB.out GE215.out)) : w.heap.size ≤ gb216)); have n4_ := Aside0.mk ((by rw [hg]; exact (below_size (hb1_ HB.out GE215.out)) : w.heap.size ≤ gb216)); have n5_ := Aside0.mk ((bl_ hg BK215.out : gb215 ≠ gb216)); have n6_ := Aside0.mk ((bg_ hg BK215.out : gb216 ≠ gb215)); clear BK215; clear HB; have BK215 := n0_; have HB := n1_; have BK216 := n2_; have GW216 := n3_; have GE216 := n4_; have NB215_216 := n5_; have NB216_215 := n6_; clear n0_ n1_ n2_ n3_ n4_ n5_ n6_; clear hb hbox hg) | ((with_reducible refine gate_dst (N := 3) rfl ?_); refine box_event ?hg (N := 3) ?hd (cs := #[.int .i64 0, .int .i64 0, .slice none 0 0]) (t := 38) ?hr ?_; (case hd => rfl); (case hg => rfl); (case hr => first | (go_simp; done) | (go_simp; rfl)); intro gb217 hg w5 hbox hb; have n0_ := Aside0.mk (bb_ BK215.out hb); have n1_ := Aside0.mk (bb_ BK216.out hb); have n2_ := Aside0.mk (below_step (hb2_ HB.out GE215.out GE216.out) hb); have n3_ := Aside0.mk (hbox); have n4_ := Aside0.mk ((by rw [hg]; exact (below_size (hb2_ HB.out GE215.out GE216.out)) : w.heap.size ≤ gb217)); have n5_ := Aside0.mk ((by rw [hg]; exact (below_size (hb2_ HB.out GE215.out GE216.out)) : w.heap.size ≤ gb217)); have n6_ := Aside0.mk ((bl_ hg BK215.out : gb215 ≠ gb217)); have n7_ := Aside0.mk ((bg_ hg BK215.out : gb217 ≠ gb215)); have n8_ := Aside0.mk ((bl_ hg BK216.out : gb216 ≠ gb217)); have n9_ := Aside0.mk ((bg_ hg BK216.out : gb217 ≠ gb216)); clear BK215; clear BK216; clear HB; have BK215 := n0_; have BK216 := n1_; have HB := n2_; have BK217 := n3_; have GW217 := n4_; have GE217 := n5_; have NB215_217 := n6_; have NB217_215 := n7_; have NB216_217 := n8_; have NB217_216 := n9_; clear n0_ n1_ n2_ n3_ n4_ n5_ n6_ n7_ n8_ n9_; clear hb hbox hg; have hnb6 := NB215_216.out; have hnc6 := NB216_215.out; have hnb7 := NB215_217.out; have hnc7 := NB217_215.out; have hcz8_0 := bc_ BK215.out 0 (.int .i64 a0_0) rfl; have hcz8_1 := bc_ BK215.out 1 (.int .i64 a0_1) rfl; have hcz8_2 := bc_ BK215.out 2 (.slice A0_2 l0_2.length c0_2) rfl; have hfz8_0 := blk_frozen BK215.out 0; have hfz8_1 := blk_frozen BK215.out 1; have hfz8_2 := blk_frozen BK215.out 2; have hnb9 := NB217_216.out; have hnc9 := NB216_217.out; have hcz10_0 := bc_ BK217.out 0 (.int .i64 0) rfl; have hcz10_1 := bc_ BK217.out 1 (.int .i64 0) rfl; have hcz10_2 := bc_ BK217.out 2 (.slice none 0 0) rfl; have hfz10_0 := blk_frozen BK217.out 0; have hfz10_1 := blk_frozen BK217.out 1; have hfz10_2 := blk_frozen BK217.out 2) | ((with_reducible refine gate_callee (f := 42) rfl ?_); refine goesL_ (some 12) rfl rfl Try.func42 (by kernel_rfl) rfl #[.slice A0_2 l0_2.length c0_2] rfl arr_ ?_; (with_reducible refine (laws_toSlotS.calls k _ _ l0_2 t218 _ ?side1 ?side2 A2.out).mono ?_); (case side1 => exact Kd.C_below HR0_2.out (hb3_ HB.out GE215.out GE216.out GE217.out)); (case side2 => exact HC0_2.out); rintro e w11 ⟨v219, rfl, ho0, hb⟩; refine ⟨_, rfl, ?_⟩; have n0_ := Aside0.mk (Kd.R_lower ho0 (below_size (hb3_ HB.out GE215.out GE216.out GE217.out))); have n1_ := Aside0.mk (blk_below (g := gb215) (o := .cells #[.int .i64 a0_0, .int .i64 a0_1, .slice A0_2 l0_2.length c0_2] 28 (0, 0)) (by (with_reducible repeat (first | refine blk_drewN ?_ _ | refine blk_drew ?_ | refine blk_alloc ?_ _)); refine blk_far ?_ NB215_217.out _; (with_reducible repeat (first | refine blk_drewN ?_ _ | refine blk_drew ?_ | refine blk_alloc ?_ _)); refine blk_far ?_ NB215_217.out _; (with_reducible repeat (first | refine blk_drewN ?_ _ | refine blk_drew ?_ | refine blk_alloc ?_ _)); exact BK215.out) hb); have n2_ := Aside0.mk (blk_below (g := gb216) (o := .cells #[.int .i64 0, .int .i64 0, .slice none 0 0] 38 (0, 0)) (by (with_reducible repeat (first | refine blk_drewN ?_ _ | refine blk_drew ?_ | refine blk_alloc ?_ _)); refine blk_far ?_ NB216_217.out _; (with_reducible repeat (first | refine blk_drewN ?_ _ | refine blk_drew ?_ | refine blk_alloc ?_ _)); refine blk_far ?_ NB216_217.out _; (with_reducible repeat (first | refine blk_drewN ?_ _ | refine blk_drew ?_ | refine blk_alloc ?_ _)); exact BK216.out) hb); have n3_ := Aside0.mk (blk_below (g := gb217) (o := .cells #[.int .i64 a0_0, .int .i64 a0_1, .slice none 0 0] 38 (0, 0)) (by (with_reducible repeat (first | refine blk_drewN ?_ _ | refine blk_drew ?_ | refine blk_alloc ?_ _)); refine blk_put (cs := #[.int .i64 a0_0, .int .i64 0, .slice none 0 0]) ?_ 1 _ rfl; (with_reducible repeat (first | refine blk_drewN ?_ _ | refine blk_drew ?_ | refine blk_alloc ?_ _)); refine blk_put (cs := #[.int .i64 0, .int .i64 0, .slice none 0 0]) ?_ 0 _ rfl; (with_reducible repeat (first | refine blk_drewN ?_ _ | refine blk_drew ?_ | refine blk_alloc ?_ _)); exact BK217.out) hb); have n4_ := Aside0.mk (below_step (hb3_ HB.out GE215.out GE216.out GE217.out) hb); clear BK215; clear BK216; clear BK217; clear HB; have HO220 := n0_; have BK215 := n1_; have BK216 := n2_; have BK217 := n3_; have HB := n4_; clear n0_ n1_ n2_ n3_ n4_; (try clear hb); (try clear hb2); (try clear hk); (try clear hi); (try clear ho0); obtain ⟨Ao12, co12, eo12⟩ := Kd.R_slice HO220.out; subst eo12; have hcz13_0 := bc_ BK217.out 0 (.int .i64 a0_0) rfl; have hcz13_1 := bc_ BK217.out 1 (.int .i64 a0_1) rfl; have hcz13_2 := bc_ BK217.out 2 (.slice none 0 0) rfl; have hfz13_0 := blk_frozen BK217.out 0; have hfz13_1 := blk_frozen BK217.out 1; have hfz13_2 := blk_frozen BK217.out 2; have hcz14_0 := bc_ BK216.out 0 (.int .i64 0) rfl; have hcz14_1 := bc_ BK216.out 1 (.int .i64 0) rfl; have hcz14_2 := bc_ BK216.out 2 (.slice none 0 0) rfl; have hfz14_0 := blk_frozen BK216.out 0; have hfz14_1 := blk_frozen BK216.out 1; have hfz14_2 := blk_frozen BK216.out 2))
  refine bodyPost_ret (results_cell_row rfl _ _ gb216 38 #[.int .i64 a0_0, .int .i64 a0_1, .slice Ao12 t218.length co12] (0, 0) _ rfl (by (with_reducible repeat (first | refine blk_drewN ?_ _ | refine blk_drew ?_ | refine blk_alloc ?_ _)); refine blk_put (cs := #[.int .i64 a0_0, .int .i64 a0_1, .slice none 0 0]) ?_ 2 _ rfl; (with_reducible repeat (first | refine blk_drewN ?_ _ | refine blk_drew ?_ | refine blk_alloc ?_ _)); refine blk_put (cs := #[.int .i64 a0_0, .int .i64 0, .slice none 0 0]) ?_ 1 _ rfl; (with_reducible repeat (first | refine blk_drewN ?_ _ | refine blk_drew ?_ | refine blk_alloc ?_ _)); refine blk_put (cs := #[.int .i64 0, .int .i64 0, .slice none 0 0]) ?_ 0 _ rfl; (with_reducible repeat (first | refine blk_drewN ?_ _ | refine blk_drew ?_ | refine blk_alloc ?_ _)); refine blk_far ?_ NB216_217.out _; (with_reducible repeat (first | refine blk_drewN ?_ _ | refine blk_drew ?_ | refine blk_alloc ?_ _)); exact BK216.out) Try.underlying38 rfl (by kernel_rfl)) rfl ?_
  exact ⟨_, er_, by (with_reducible repeat (first | apply Kd.R_alloc | apply Kd.R_drewN | apply Kd.R_drew)); exact Kd.R_mono (Kd.R_far (p := ⟨gb216, 2, none⟩) (Kd.R_far (p := ⟨gb216, 1, none⟩) (Kd.R_far (p := ⟨gb216, 0, none⟩) (Kd.R_far (p := ⟨gb217, 2, none⟩) (Kd.R_types (Kd.R_types HO220.out BK217.out (by decide)) BK216.out (by decide)) (fun _ hk => hk.1.2) (.slice Ao12 t218.length co12)) (fun _ hk => hk.2) (.int .i64 a0_0)) (fun _ hk => hk.2) (.int .i64 a0_1)) (fun _ hk => hk.2) (.slice Ao12 t218.length co12)) (fun _ hk => trivial), hb3_ HB.out GE215.out GE216.out GE217.out⟩
def impl_IvalOk.f (a0_0 : Int) (a0_1 : Int) : Option (Bool) := if (-1000000000000) ≤ a0_0 then (if a0_0 ≤ a0_1 then (some (decide (a0_1 ≤ 1000000000000))) else (some false)) else (some false)
set_option maxHeartbeats 8000000 in
set_option maxRecDepth 100000 in
theorem impl_IvalOk.calls (a0_0 : Int) (a0_1 : Int) (r : Bool) (w : World) (h : impl_IvalOk.f a0_0 a0_1 = some r) :
    Calls Try.prog 43 #[.agg #[.int .i64 a0_0, .int .i64 a0_1]] w fun e w' => e = .returned (.bool r) ∧ Below w.heap.size w w' := by
  have hu32 := Try.underlying32
  have HB := Aside0.mk (Below.refl w.heap.size w)
  have H : (if (-1000000000000) ≤ a0_0 then (if a0_0 ≤ a0_1 then (some (decide (a0_1 ≤ 1000000000000))) else (some false)) else (some false)) = some r := h
  clear h
  by_cases c2 : (-1000000000000) ≤ a0_0
  · rw [if_pos c2] at H
    have c2b0 : decide ((-1000000000000) ≤ a0_0) = true := decide_eq_true c2
    clear c2
    by_cases c3 : a0_0 ≤ a0_1
    · rw [if_pos c3] at H
      have c3b0 : decide (a0_0 ≤ a0_1) = true := decide_eq_true c3
      clear c3
      obtain rfl := Option.some.inj H
      go_enter Try.func43, Try.ntmps43
      go_wp2_with (first | ((with_reducible refine gate_dst (N := 1) rfl ?_); refine box_event ?hg (N := 1) ?hd (cs := #[.int .i64 a0_0, .int .i64 a0_1]) (t := 32) ?hr ?_; (case hd => rfl); (case hg => rfl); (case hr => first | (go_simp; done) | (go_simp; rfl)); intro gb221 hg w4 hbox hb; have n0_ := Aside0.mk (below_step (hb_ HB.out) hb); have n1_ := Aside0.mk (hbox); have n2_ := Aside0.mk ((by rw [hg]; exact (below_size (hb_ HB.out)) : w.heap.size ≤ gb221)); have n3_ := Aside0.mk ((by rw [hg]; exact (below_size (hb_ HB.out)) : w.heap.size ≤ gb221)); clear HB; have HB := n0_; have BK221 := n1_; have GW221 := n2_; have GE221 := n3_; clear n0_ n1_ n2_ n3_; clear hb hbox hg; have hcz5_0 := bc_ BK221.out 0 (.int .i64 a0_0) rfl; have hcz5_1 := bc_ BK221.out 1 (.int .i64 a0_1) rfl; have hfz5_0 := blk_frozen BK221.out 0; have hfz5_1 := blk_frozen BK221.out 1))
      go_ret
      exact ⟨er_, hb1_ HB.out GE221.out⟩
    · rw [if_neg c3] at H
      have c3b0 : decide (a0_0 ≤ a0_1) = false := decide_eq_false c3
      clear c3
      obtain rfl := Option.some.inj H
      go_enter Try.func43, Try.ntmps43
      go_wp2_with (first | ((with_reducible refine gate_dst (N := 1) rfl ?_); refine box_event ?hg (N := 1) ?hd (cs := #[.int .i64 a0_0, .int .i64 a0_1]) (t := 32) ?hr ?_; (case hd => rfl); (case hg => rfl); (case hr => first | (go_simp; done) | (go_simp; rfl)); intro gb221 hg w6 hbox hb; have n0_ := Aside0.mk (below_step (hb_ HB.out) hb); have n1_ := Aside0.mk (hbox); have n2_ := Aside0.mk ((by rw [hg]; exact (below_size (hb_ HB.out)) : w.heap.size ≤ gb221)); have n3_ := Aside0.mk ((by rw [hg]; exact (below_size (hb_ HB.out)) : w.heap.size ≤ gb221)); clear HB; have HB := n0_; have BK221 := n1_; have GW221 := n2_; have GE221 := n3_; clear n0_ n1_ n2_ n3_; clear hb hbox hg; have hcz7_0 := bc_ BK221.out 0 (.int .i64 a0_0) rfl; have hcz7_1 := bc_ BK221.out 1 (.int .i64 a0_1) rfl; have hfz7_0 := blk_frozen BK221.out 0; have hfz7_1 := blk_frozen BK221.out 1))
      go_ret
      exact ⟨er_, hb1_ HB.out GE221.out⟩
  · rw [if_neg c2] at H
    have c2b0 : decide ((-1000000000000) ≤ a0_0) = false := decide_eq_false c2
    clear c2
    obtain rfl := Option.some.inj H
    go_enter Try.func43, Try.ntmps43
    go_wp2_with (first | ((with_reducible refine gate_dst (N := 1) rfl ?_); refine box_event ?hg (N := 1) ?hd (cs := #[.int .i64 a0_0, .int .i64 a0_1]) (t := 32) ?hr ?_; (case hd => rfl); (case hg => rfl); (case hr => first | (go_simp; done) | (go_simp; rfl)); intro gb221 hg w8 hbox hb; have n0_ := Aside0.mk (below_step (hb_ HB.out) hb); have n1_ := Aside0.mk (hbox); have n2_ := Aside0.mk ((by rw [hg]; exact (below_size (hb_ HB.out)) : w.heap.size ≤ gb221)); have n3_ := Aside0.mk ((by rw [hg]; exact (below_size (hb_ HB.out)) : w.heap.size ≤ gb221)); clear HB; have HB := n0_; have BK221 := n1_; have GW221 := n2_; have GE221 := n3_; clear n0_ n1_ n2_ n3_; clear hb hbox hg; have hcz9_0 := bc_ BK221.out 0 (.int .i64 a0_0) rfl; have hcz9_1 := bc_ BK221.out 1 (.int .i64 a0_1) rfl; have hfz9_0 := blk_frozen BK221.out 0; have hfz9_1 := blk_frozen BK221.out 1))
    go_ret
    exact ⟨er_, hb1_ HB.out GE221.out⟩
def impl_in.f (a0 : Int) (a1 : Int) (a2 : Int) : Option (Bool) := if a1 ≤ a0 then (some (decide (a0 ≤ a2))) else (some false)
set_option maxHeartbeats 8000000 in
set_option maxRecDepth 100000 in
theorem impl_in.calls (a0 : Int) (a1 : Int) (a2 : Int) (r : Bool) (w : World) (h : impl_in.f a0 a1 a2 = some r) :
    Calls Try.prog 45 #[.int .i64 a0, .int .i64 a1, .int .i64 a2] w fun e w' => e = .returned (.bool r) ∧ Drawn0 w w' := by
  have H : (if a1 ≤ a0 then (some (decide (a0 ≤ a2))) else (some false)) = some r := h
  clear h
  by_cases c4 : a1 ≤ a0
  · rw [if_pos c4] at H
    have c4b0 : decide (a1 ≤ a0) = true := decide_eq_true c4
    clear c4
    obtain rfl := Option.some.inj H
    go_enter Try.func45, Try.ntmps45
    go_wp2
    go_ret
    exact ⟨by first | rfl | (simp; done) | (simp [*]; done), by repeat (first | exact Drawn0.refl _ | apply Drawn0.step)⟩
  · rw [if_neg c4] at H
    have c4b0 : decide (a1 ≤ a0) = false := decide_eq_false c4
    clear c4
    obtain rfl := Option.some.inj H
    go_enter Try.func45, Try.ntmps45
    go_wp2
    go_ret
    exact ⟨by first | rfl | (simp; done) | (simp [*]; done), by repeat (first | exact Drawn0.refl _ | apply Drawn0.step)⟩
def impl_DriftOk.f (a0_0 : Int) (a0_1 : Int) : Option (Bool) := (impl_in.f a0_1 1 1000000).bind fun t223 => (if t223 = true then ((impl_in.f a0_0 0 a0_1).bind fun t224 => (if t224 = true then (some (decide ((wrap64 (2 * a0_0)) ≤ a0_1))) else (some false))) else (some false))
set_option maxHeartbeats 8000000 in
set_option maxRecDepth 100000 in
theorem impl_DriftOk.calls (a0_0 : Int) (a0_1 : Int) (r : Bool) (w : World) (h : impl_DriftOk.f a0_0 a0_1 = some r) :
    Calls Try.prog 44 #[.agg #[.int .i64 a0_0, .int .i64 a0_1]] w fun e w' => e = .returned (.bool r) ∧ Below w.heap.size w w' := by
  have hu34 := Try.underlying34
  have HB := Aside0.mk (Below.refl w.heap.size w)
  have H : ((impl_in.f a0_1 1 1000000).bind fun t223 => (if t223 = true then ((impl_in.f a0_0 0 a0_1).bind fun t224 => (if t224 = true then (some (decide ((wrap64 (2 * a0_0)) ≤ a0_1))) else (some false))) else (some false))) = some r := h
  clear h
  replace H := Option.bind_eq_some_iff.mp H
  obtain ⟨t223, A20, H⟩ := H
  replace H : (if t223 = true then ((impl_in.f a0_0 0 a0_1).bind fun t224 => (if t224 = true then (some (decide ((wrap64 (2 * a0_0)) ≤ a0_1))) else (some false))) else (some false)) = some r := H
  have A2 := Aside0.mk A20
  clear A20
  by_cases c3 : t223 = true
  · subst c3
    have H1 : ((impl_in.f a0_0 0 a0_1).bind fun t224 => (if t224 = true then (some (decide ((wrap64 (2 * a0_0)) ≤ a0_1))) else (some false))) = some r := by rw [if_pos rfl] at H; exact H
    clear H
    have H := H1
    clear H1
    replace H := Option.bind_eq_some_iff.mp H
    obtain ⟨t224, A40, H⟩ := H
    replace H : (if t224 = true then (some (decide ((wrap64 (2 * a0_0)) ≤ a0_1))) else (some false)) = some r := H
    have A4 := Aside0.mk A40
    clear A40
    by_cases c5 : t224 = true
    · subst c5
      have H1 : (some (decide ((wrap64 (2 * a0_0)) ≤ a0_1))) = some r := by rw [if_pos rfl] at H; exact H
      clear H
      have H := H1
      clear H1
      obtain rfl := Option.some.inj H
      go_enter Try.func44, Try.ntmps44
      go_wp2_with (first | ((with_reducible refine gate_dst (N := 1) rfl ?_); refine box_event ?hg (N := 1) ?hd (cs := #[.int .i64 a0_0, .int .i64 a0_1]) (t := 34) ?hr ?_; (case hd => rfl); (case hg => rfl); (case hr => first | (go_simp; done) | (go_simp; rfl)); intro gb222 hg w6 hbox hb; have n0_ := Aside0.mk (below_step (hb_ HB.out) hb); have n1_ := Aside0.mk (hbox); have n2_ := Aside0.mk ((by rw [hg]; exact (below_size (hb_ HB.out)) : w.heap.size ≤ gb222)); have n3_ := Aside0.mk ((by rw [hg]; exact (below_size (hb_ HB.out)) : w.heap.size ≤ gb222)); clear HB; have HB := n0_; have BK222 := n1_; have GW222 := n2_; have GE222 := n3_; clear n0_ n1_ n2_ n3_; clear hb hbox hg; have hcz7_0 := bc_ BK222.out 0 (.int .i64 a0_0) rfl; have hcz7_1 := bc_ BK222.out 1 (.int .i64 a0_1) rfl; have hfz7_0 := blk_frozen BK222.out 0; have hfz7_1 := blk_frozen BK222.out 1) | ((with_reducible refine gate_callee (f := 45) rfl ?_); refine goesL_ (some 5) rfl rfl Try.func45 (by kernel_rfl) rfl #[.int .i64 a0_1, .int .i64 1, .int .i64 1000000] rfl arr_ ?_; (with_reducible refine (impl_in.calls a0_1 1 1000000 true _ A2.out).mono ?_); rintro e w' ⟨rfl, ⟨nd, rfl⟩⟩; refine ⟨_, rfl, ?_⟩) | (go_at_call 45; (with_reducible refine (impl_in.calls a0_0 0 a0_1 true _ A4.out).mono ?_); rintro e w' ⟨rfl, ⟨nd, rfl⟩⟩))
      go_ret
      exact ⟨er_, hb1_ HB.out GE222.out⟩
    · replace c5 := Bool.eq_false_iff.mpr c5
      subst c5
      have H1 : (some false) = some r := by rw [if_neg (show ¬ (false = true) by decide)] at H; exact H
      clear H
      have H := H1
      clear H1
      obtain rfl := Option.some.inj H
      go_enter Try.func44, Try.ntmps44
      go_wp2_with (first | ((with_reducible refine gate_dst (N := 1) rfl ?_); refine box_event ?hg (N := 1) ?hd (cs := #[.int .i64 a0_0, .int .i64 a0_1]) (t := 34) ?hr ?_; (case hd => rfl); (case hg => rfl); (case hr => first | (go_simp; done) | (go_simp; rfl)); intro gb222 hg w8 hbox hb; have n0_ := Aside0.mk (below_step (hb_ HB.out) hb); have n1_ := Aside0.mk (hbox); have n2_ := Aside0.mk ((by rw [hg]; exact (below_size (hb_ HB.out)) : w.heap.size ≤ gb222)); have n3_ := Aside0.mk ((by rw [hg]; exact (below_size (hb_ HB.out)) : w.heap.size ≤ gb222)); clear HB; have HB := n0_; have BK222 := n1_; have GW222 := n2_; have GE222 := n3_; clear n0_ n1_ n2_ n3_; clear hb hbox hg; have hcz9_0 := bc_ BK222.out 0 (.int .i64 a0_0) rfl; have hcz9_1 := bc_ BK222.out 1 (.int .i64 a0_1) rfl; have hfz9_0 := blk_frozen BK222.out 0; have hfz9_1 := blk_frozen BK222.out 1) | ((with_reducible refine gate_callee (f := 45) rfl ?_); refine goesL_ (some 5) rfl rfl Try.func45 (by kernel_rfl) rfl #[.int .i64 a0_1, .int .i64 1, .int .i64 1000000] rfl arr_ ?_; (with_reducible refine (impl_in.calls a0_1 1 1000000 true _ A2.out).mono ?_); rintro e w' ⟨rfl, ⟨nd, rfl⟩⟩; refine ⟨_, rfl, ?_⟩) | (go_at_call 45; (with_reducible refine (impl_in.calls a0_0 0 a0_1 false _ A4.out).mono ?_); rintro e w' ⟨rfl, ⟨nd, rfl⟩⟩))
      go_ret
      exact ⟨er_, hb1_ HB.out GE222.out⟩
  · replace c3 := Bool.eq_false_iff.mpr c3
    subst c3
    have H1 : (some false) = some r := by rw [if_neg (show ¬ (false = true) by decide)] at H; exact H
    clear H
    have H := H1
    clear H1
    obtain rfl := Option.some.inj H
    go_enter Try.func44, Try.ntmps44
    go_wp2_with (first | ((with_reducible refine gate_dst (N := 1) rfl ?_); refine box_event ?hg (N := 1) ?hd (cs := #[.int .i64 a0_0, .int .i64 a0_1]) (t := 34) ?hr ?_; (case hd => rfl); (case hg => rfl); (case hr => first | (go_simp; done) | (go_simp; rfl)); intro gb222 hg w10 hbox hb; have n0_ := Aside0.mk (below_step (hb_ HB.out) hb); have n1_ := Aside0.mk (hbox); have n2_ := Aside0.mk ((by rw [hg]; exact (below_size (hb_ HB.out)) : w.heap.size ≤ gb222)); have n3_ := Aside0.mk ((by rw [hg]; exact (below_size (hb_ HB.out)) : w.heap.size ≤ gb222)); clear HB; have HB := n0_; have BK222 := n1_; have GW222 := n2_; have GE222 := n3_; clear n0_ n1_ n2_ n3_; clear hb hbox hg; have hcz11_0 := bc_ BK222.out 0 (.int .i64 a0_0) rfl; have hcz11_1 := bc_ BK222.out 1 (.int .i64 a0_1) rfl; have hfz11_0 := blk_frozen BK222.out 0; have hfz11_1 := blk_frozen BK222.out 1) | ((with_reducible refine gate_callee (f := 45) rfl ?_); refine goesL_ (some 5) rfl rfl Try.func45 (by kernel_rfl) rfl #[.int .i64 a0_1, .int .i64 1, .int .i64 1000000] rfl arr_ ?_; (with_reducible refine (impl_in.calls a0_1 1 1000000 false _ A2.out).mono ?_); rintro e w' ⟨rfl, ⟨nd, rfl⟩⟩; refine ⟨_, rfl, ?_⟩))
    go_ret
    exact ⟨er_, hb1_ HB.out GE222.out⟩
def impl_isTime.f (a0 : Int) : Option (Bool) := (impl_in.f a0 0 1000000000000).bind fun t225 => (some t225)
set_option maxHeartbeats 8000000 in
set_option maxRecDepth 100000 in
theorem impl_isTime.calls (a0 : Int) (r : Bool) (w : World) (h : impl_isTime.f a0 = some r) :
    Calls Try.prog 75 #[.int .i64 a0] w fun e w' => e = .returned (.bool r) ∧ Drawn0 w w' := by
  have H : ((impl_in.f a0 0 1000000000000).bind fun t225 => (some t225)) = some r := h
  clear h
  replace H := Option.bind_eq_some_iff.mp H
  obtain ⟨t225, A20, H⟩ := H
  replace H : (some t225) = some r := H
  have A2 := Aside0.mk A20
  clear A20
  obtain rfl := Option.some.inj H
  go_enter Try.func75, Try.ntmps75
  go_wp2_with (first | ((with_reducible refine gate_callee (f := 45) rfl ?_); refine goesL_ (some 4) rfl rfl Try.func45 (by kernel_rfl) rfl #[.int .i64 a0, .int .i64 0, .int .i64 1000000000000] rfl arr_ ?_; (with_reducible refine (impl_in.calls a0 0 1000000000000 t225 _ A2.out).mono ?_); rintro e w' ⟨rfl, ⟨nd, rfl⟩⟩; refine ⟨_, rfl, ?_⟩))
  go_ret
  exact ⟨by first | rfl | (simp; done) | (simp [*]; done), by repeat (first | exact Drawn0.refl _ | apply Drawn0.step)⟩
def impl_isNode.f (a0 : Int) : Option (Bool) := (impl_in.f a0 0 7).bind fun t226 => (some t226)
set_option maxHeartbeats 8000000 in
set_option maxRecDepth 100000 in
theorem impl_isNode.calls (a0 : Int) (r : Bool) (w : World) (h : impl_isNode.f a0 = some r) :
    Calls Try.prog 47 #[.int .i64 a0] w fun e w' => e = .returned (.bool r) ∧ Drawn0 w w' := by
  have H : ((impl_in.f a0 0 7).bind fun t226 => (some t226)) = some r := h
  clear h
  replace H := Option.bind_eq_some_iff.mp H
  obtain ⟨t226, A20, H⟩ := H
  replace H : (some t226) = some r := H
  have A2 := Aside0.mk A20
  clear A20
  obtain rfl := Option.some.inj H
  go_enter Try.func47, Try.ntmps47
  go_wp2_with (first | ((with_reducible refine gate_callee (f := 45) rfl ?_); refine goesL_ (some 4) rfl rfl Try.func45 (by kernel_rfl) rfl #[.int .i64 a0, .int .i64 0, .int .i64 7] rfl arr_ ?_; (with_reducible refine (impl_in.calls a0 0 7 t226 _ A2.out).mono ?_); rintro e w' ⟨rfl, ⟨nd, rfl⟩⟩; refine ⟨_, rfl, ?_⟩))
  go_ret
  exact ⟨by first | rfl | (simp; done) | (simp [*]; done), by repeat (first | exact Drawn0.refl _ | apply Drawn0.step)⟩
def impl_PlanOk_1.f (a0_0 : Int) (a0_1 : Int) : Option (Bool) := (impl_isNode.f a0_0).bind fun t228 => (if t228 = true then ((impl_in.f a0_1 1 1000000).bind fun t229 => (some (!t229))) else (some true))
set_option maxHeartbeats 8000000 in
set_option maxRecDepth 100000 in
theorem impl_PlanOk_1.calls (a0_0 : Int) (a0_1 : Int) (r : Bool) (w : World) (h : impl_PlanOk_1.f a0_0 a0_1 = some r) :
    Calls Try.prog 86 #[.agg #[.int .i64 a0_0, .int .i64 a0_1]] w fun e w' => e = .returned (.bool r) ∧ Below w.heap.size w w' := by
  have hu55 := Try.underlying55
  have HB := Aside0.mk (Below.refl w.heap.size w)
  have H : ((impl_isNode.f a0_0).bind fun t228 => (if t228 = true then ((impl_in.f a0_1 1 1000000).bind fun t229 => (some (!t229))) else (some true))) = some r := h
  clear h
  replace H := Option.bind_eq_some_iff.mp H
  obtain ⟨t228, A20, H⟩ := H
  replace H : (if t228 = true then ((impl_in.f a0_1 1 1000000).bind fun t229 => (some (!t229))) else (some true)) = some r := H
  have A2 := Aside0.mk A20
  clear A20
  by_cases c3 : t228 = true
  · subst c3
    have H1 : ((impl_in.f a0_1 1 1000000).bind fun t229 => (some (!t229))) = some r := by rw [if_pos rfl] at H; exact H
    clear H
    have H := H1
    clear H1
    replace H := Option.bind_eq_some_iff.mp H
    obtain ⟨t229, A40, H⟩ := H
    replace H : (some (!t229)) = some r := H
    have A4 := Aside0.mk A40
    clear A40
    obtain rfl := Option.some.inj H
    go_enter Try.func86, Try.ntmps86
    go_wp2_with (first | ((with_reducible refine gate_dst (N := 1) rfl ?_); refine box_event ?hg (N := 1) ?hd (cs := #[.int .i64 a0_0, .int .i64 a0_1]) (t := 55) ?hr ?_; (case hd => rfl); (case hg => rfl); (case hr => first | (go_simp; done) | (go_simp; rfl)); intro gb227 hg w5 hbox hb; have n0_ := Aside0.mk (below_step (hb_ HB.out) hb); have n1_ := Aside0.mk (hbox); have n2_ := Aside0.mk ((by rw [hg]; exact (below_size (hb_ HB.out)) : w.heap.size ≤ gb227)); have n3_ := Aside0.mk ((by rw [hg]; exact (below_size (hb_ HB.out)) : w.heap.size ≤ gb227)); clear HB; have HB := n0_; have BK227 := n1_; have GW227 := n2_; have GE227 := n3_; clear n0_ n1_ n2_ n3_; clear hb hbox hg; have hcz6_0 := bc_ BK227.out 0 (.int .i64 a0_0) rfl; have hcz6_1 := bc_ BK227.out 1 (.int .i64 a0_1) rfl; have hfz6_0 := blk_frozen BK227.out 0; have hfz6_1 := blk_frozen BK227.out 1) | ((with_reducible refine gate_callee (f := 47) rfl ?_); refine goesL_ (some 5) rfl rfl Try.func47 (by kernel_rfl) rfl #[.int .i64 a0_0] rfl arr_ ?_; (with_reducible refine (impl_isNode.calls a0_0 true _ A2.out).mono ?_); rintro e w' ⟨rfl, ⟨nd, rfl⟩⟩; refine ⟨_, rfl, ?_⟩) | (go_at_call 45; (with_reducible refine (impl_in.calls a0_1 1 1000000 t229 _ A4.out).mono ?_); rintro e w' ⟨rfl, ⟨nd, rfl⟩⟩))
    go_ret
    exact ⟨er_, hb1_ HB.out GE227.out⟩
  · replace c3 := Bool.eq_false_iff.mpr c3
    subst c3
    have H1 : (some true) = some r := by rw [if_neg (show ¬ (false = true) by decide)] at H; exact H
    clear H
    have H := H1
    clear H1
    obtain rfl := Option.some.inj H
    go_enter Try.func86, Try.ntmps86
    go_wp2_with (first | ((with_reducible refine gate_dst (N := 1) rfl ?_); refine box_event ?hg (N := 1) ?hd (cs := #[.int .i64 a0_0, .int .i64 a0_1]) (t := 55) ?hr ?_; (case hd => rfl); (case hg => rfl); (case hr => first | (go_simp; done) | (go_simp; rfl)); intro gb227 hg w7 hbox hb; have n0_ := Aside0.mk (below_step (hb_ HB.out) hb); have n1_ := Aside0.mk (hbox); have n2_ := Aside0.mk ((by rw [hg]; exact (below_size (hb_ HB.out)) : w.heap.size ≤ gb227)); have n3_ := Aside0.mk ((by rw [hg]; exact (below_size (hb_ HB.out)) : w.heap.size ≤ gb227)); clear HB; have HB := n0_; have BK227 := n1_; have GW227 := n2_; have GE227 := n3_; clear n0_ n1_ n2_ n3_; clear hb hbox hg; have hcz8_0 := bc_ BK227.out 0 (.int .i64 a0_0) rfl; have hcz8_1 := bc_ BK227.out 1 (.int .i64 a0_1) rfl; have hfz8_0 := blk_frozen BK227.out 0; have hfz8_1 := blk_frozen BK227.out 1) | ((with_reducible refine gate_callee (f := 47) rfl ?_); refine goesL_ (some 5) rfl rfl Try.func47 (by kernel_rfl) rfl #[.int .i64 a0_0] rfl arr_ ?_; (with_reducible refine (impl_isNode.calls a0_0 false _ A2.out).mono ?_); rintro e w' ⟨rfl, ⟨nd, rfl⟩⟩; refine ⟨_, rfl, ?_⟩))
    go_ret
    exact ⟨er_, hb1_ HB.out GE227.out⟩
def slices_IndexFunc_Slot.l0 : Nat → List (S55) → Int → Int → Option (Int)
  | 0, _, _, _ => none
  | k + 1, x0, x7, x8 => if x8 < x7 then (if 0 ≤ x8 then (if x8 < (x0.length : Int) then ((impl_PlanOk_1.f ((rd_T55 x0 x8).f0) ((rd_T55 x0 x8).f1)).bind fun t231 => (if t231 = true then (some x8) else (slices_IndexFunc_Slot.l0 k x0 x7 (wrap64 (x8 + 1))))) else (none)) else (none)) else (some (-1))
def slices_IndexFunc_Slot.f (k : Nat) (l0 : List (S55)) : Option (Int) := slices_IndexFunc_Slot.l0 k l0 (l0.length : Int) 0
theorem slices_IndexFunc_Slot.mono_l : ∀ k, (∀ y0 y1 y2, LeO (slices_IndexFunc_Slot.l0 k y0 y1 y2) (slices_IndexFunc_Slot.l0 (k + 1) y0 y1 y2))
  | 0 => fun _ _ _ r h => by simp [slices_IndexFunc_Slot.l0] at h
  | k + 1 => by
    have ih0 := slices_IndexFunc_Slot.mono_l k
    · intro y0 y1 y2
      unfold slices_IndexFunc_Slot.l0
      repeat' first
      | (with_reducible exact ih0 _ _ _)
      | (with_reducible exact LeO.refl _)
      | (with_reducible exact LeO.none _)
      | (with_reducible refine LeO.ite ?_ ?_)
      | (with_reducible refine LeO.bind ?_ (fun _ => ?_))
      | exact ih0 _ _ _
      | exact LeO.none _
      | refine LeO.ite ?_ ?_
      | refine LeO.bind ?_ (fun _ => ?_)
theorem slices_IndexFunc_Slot.mono : ∀ a0 k, LeO (slices_IndexFunc_Slot.f k a0) (slices_IndexFunc_Slot.f (k + 1) a0) := by
  intro a0 k
  have ih0 := slices_IndexFunc_Slot.mono_l k
  unfold slices_IndexFunc_Slot.f
  repeat' first
      | (with_reducible exact ih0 _ _ _)
      | (with_reducible exact LeO.refl _)
      | (with_reducible exact LeO.none _)
      | (with_reducible refine LeO.ite ?_ ?_)
      | (with_reducible refine LeO.bind ?_ (fun _ => ?_))
      | exact ih0 _ _ _
      | exact LeO.none _
      | refine LeO.ite ?_ ?_
      | refine LeO.bind ?_ (fun _ => ?_)
set_option maxHeartbeats 8000000 in
set_option maxRecDepth 100000 in
theorem slices_IndexFunc_Slot.calls (k : Nat) (A0 : Option Addr) (c0 : Nat) (l0 : List (S55)) (r : Int) (w : World) (hr0 : Kd.C k55 w A0 l0.length l0) (hc0 : l0.length ≤ c0) (h : slices_IndexFunc_Slot.f k l0 = some r) :
    Calls Try.prog 101 #[.slice A0 l0.length c0, .func (.func 86) #[] #[]] w fun e w' => e = .returned (.int .i64 r) ∧ Below w.heap.size w w' := by
  have hu55 := Try.underlying55
  have HR0 := Aside0.mk hr0
  have HC0 := Aside0.mk hc0
  clear hr0 hc0
  have HB := Aside0.mk (Below.refl w.heap.size w)
  have H : (slices_IndexFunc_Slot.l0 k l0 (l0.length : Int) 0) = some r := h
  clear h
  have H' := Aside0.mk H
  clear H
  go_enter Try.func101, Try.ntmps101
  go_wp2
  go_loopg [8] k (fun kq v8 w' => ∃ (x8_1 : Int), v8 = .int .i64 x8_1 ∧ Aside0 (slices_IndexFunc_Slot.l0 kq l0 (l0.length : Int) x8_1 = some r) ∧ Aside0 (kq ≤ k) ∧ Aside0 (Below w.heap.size w w'))
  case atStart => exact ⟨(0), (by first | rfl | (simp; done) | (simp [*]; done)), H', ⟨Nat.le_refl _⟩, ⟨hb_ HB.out⟩⟩
  case round =>
    clear H'
    try clear c1
    obtain ⟨x8_1, rfl, HA, HK1, HB⟩ := hrel
    cases gk with
    | zero => exact absurd HA.out (by simp [slices_IndexFunc_Slot.l0])
    | succ k1 =>
      have H := HA.out
      clear HA
      simp only [slices_IndexFunc_Slot.l0] at H
      by_cases c2 : x8_1 < (l0.length : Int)
      · rw [if_pos c2] at H
        have c2b0 : decide (x8_1 < (l0.length : Int)) = true := decide_eq_true c2
        clear c2
        by_cases c3 : 0 ≤ x8_1
        · rw [if_pos c3] at H
          have c3b0 : decide (0 ≤ x8_1) = true := decide_eq_true c3
          clear c3
          by_cases c4 : x8_1 < (l0.length : Int)
          · rw [if_pos c4] at H
            have c4b0 : decide (x8_1 < (l0.length : Int)) = true := decide_eq_true c4
            clear c4
            replace H := Option.bind_eq_some_iff.mp H
            obtain ⟨t231, A50, H⟩ := H
            replace H : (if t231 = true then (some x8_1) else (slices_IndexFunc_Slot.l0 k1 l0 (l0.length : Int) (wrap64 (x8_1 + 1)))) = some r := H
            have A5 := Aside0.mk A50
            clear A50
            by_cases c6 : t231 = true
            · subst c6
              have H1 : (some x8_1) = some r := by rw [if_pos rfl] at H; exact H
              clear H
              have H := H1
              clear H1
              obtain rfl := Option.some.inj H
              have p230 : 0 ≤ (x8_1 : Int) := of_decide_eq_true (by first | (with_reducible assumption) | assumption)
              have q230 : x8_1 < (l0.length : Int) := of_decide_eq_true (by first | (with_reducible assumption) | assumption)
              obtain ⟨ad230, e230, hx230_0, hx230_1⟩ := at_T55 HR0.out x8_1 p230 q230
              cases e230
              replace hx230_0 := (HB.out.cell (World.block_lt_of_cell? w _ hx230_0)).trans hx230_0
              replace hx230_1 := (HB.out.cell (World.block_lt_of_cell? w _ hx230_1)).trans hx230_1
              replace p230 := eq_true p230
              replace q230 := eq_true q230
              go_wp2_with (first | (go_at_call 86; (with_reducible refine (impl_PlanOk_1.calls ((rd_T55 l0 x8_1).f0) ((rd_T55 l0 x8_1).f1) true _ A5.out).mono ?_); rintro e w7 ⟨rfl, hb⟩; have n0_ := Aside0.mk (below_step (hb_ HB.out) hb); clear HB; have HB := n0_; clear n0_; (try clear hb); (try clear hb2); (try clear hk); (try clear hi)))
              go_ret
              exact ⟨er_, hb_ HB.out⟩
            · replace c6 := Bool.eq_false_iff.mpr c6
              subst c6
              have H1 : (slices_IndexFunc_Slot.l0 k1 l0 (l0.length : Int) (wrap64 (x8_1 + 1))) = some r := by rw [if_neg (show ¬ (false = true) by decide)] at H; exact H
              clear H
              have H := H1
              clear H1
              have H' := Aside0.mk H
              clear H
              have p230 : 0 ≤ (x8_1 : Int) := of_decide_eq_true (by first | (with_reducible assumption) | assumption)
              have q230 : x8_1 < (l0.length : Int) := of_decide_eq_true (by first | (with_reducible assumption) | assumption)
              obtain ⟨ad230, e230, hx230_0, hx230_1⟩ := at_T55 HR0.out x8_1 p230 q230
              cases e230
              replace hx230_0 := (HB.out.cell (World.block_lt_of_cell? w _ hx230_0)).trans hx230_0
              replace hx230_1 := (HB.out.cell (World.block_lt_of_cell? w _ hx230_1)).trans hx230_1
              replace p230 := eq_true p230
              replace q230 := eq_true q230
              go_wp2_with (first | (go_at_call 86; (with_reducible refine (impl_PlanOk_1.calls ((rd_T55 l0 x8_1).f0) ((rd_T55 l0 x8_1).f1) false _ A5.out).mono ?_); rintro e w8 ⟨rfl, hb⟩; have n0_ := Aside0.mk (below_step (hb_ HB.out) hb); clear HB; have HB := n0_; clear n0_; (try clear hb); (try clear hb2); (try clear hk); (try clear hi)))
              go_roundg k1
              case measure => have := HK1.out; omega
              case rel => exact ⟨(wrap64 (x8_1 + 1)), (by first | rfl | (simp; done) | (simp [*]; done)), H', ⟨by have := HK1.out; omega⟩, ⟨hb_ HB.out⟩⟩
          · rw [if_neg c4] at H
            exact absurd H (by simp)
        · rw [if_neg c3] at H
          exact absurd H (by simp)
      · rw [if_neg c2] at H
        have c2b0 : decide (x8_1 < (l0.length : Int)) = false := decide_eq_false c2
        clear c2
        obtain rfl := Option.some.inj H
        go_wp2
        go_ret
        exact ⟨er_, hb_ HB.out⟩
end Go.Proofs.Ytejohmompmjhnaa.P
