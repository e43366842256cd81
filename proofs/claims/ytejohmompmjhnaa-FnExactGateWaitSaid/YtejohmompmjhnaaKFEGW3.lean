/- Texts of the seat's proofs, part 3: functions of the program told as plain functions, with their contracts, and what is shown of them. No condition. -/
import Derived.Test.YtejohmompmjhnaaUKFEGW
import Derived.Test.YtejohmompmjhnaaKFEGW1
import Derived.Test.YtejohmompmjhnaaKFEGW2
set_option linter.unusedVariables false
set_option linter.unusedSimpArgs false
namespace Go.Proofs.Ytejohmompmjhnaa.P
open Go.RowKit Go.Proofs.YtejohmompmjhnaaW.PrintWords Go.Proofs.YtejohmompmjhnaaW.PrintLast Go.Proofs.YtejohmompmjhnaaW.PrintMore
attribute [local go_sem] max2_int min2_int max_two min_two max_three min_three max_four min_four
set_option linter.unusedVariables false
set_option linter.unusedSimpArgs false
mutual
def spec_GateAsk.j0 : Nat → Bool → Int → Int → Bool → Int → Int → Int → Int → Int → Int → List (S55) → Option (Int × Int × Int)
  | 0, _, _, _, _, _, _, _, _, _, _, _ => none
  | k + 1, x1, x3, x5, x45, x181000, x181001, x182000, x182001, x183000, x183001, x183002 => if x45 = true then (some (0, 0, 1)) else ((spec_GateSpan.f k x181000 x181001 x182000 x182001 x3).bind fun bt192 => (if x1 = true then (spec_GateAsk.j1 k x5 (!bt192.2.2) x183000 x183001 x183002 bt192.1 bt192.2.1) else (spec_GateAsk.j1 k x5 true x183000 x183001 x183002 bt192.1 bt192.2.1)))
def spec_GateAsk.j1 : Nat → Int → Bool → Int → Int → List (S55) → Int → Int → Option (Int × Int × Int)
  | 0, _, _, _, _, _, _, _ => none
  | k + 1, x5, x58, x183000, x183001, x183002, x196000, x196001 => if x58 = true then (some (0, 0, 2)) else ((spec_InSlot.f k x183000 x183001 x183002 x5 x196000 x196001).bind fun bt196 => (if bt196.2.2 = true then (some (bt196.1, bt196.2.1, 0)) else (some (0, 0, 2))))
end
def spec_GateAsk.f (k : Nat) (a0_0 : Int) (a0_1 : Int) (a1 : Bool) (a2_0 : Int) (a2_1 : Int) (a3 : Int) (a4_0 : Int) (a4_1 : Int) (l4_2 : List (S55)) (a5 : Int) : Option (Int × Int × Int) := if a1 = true then ((spec_IvalOk.f a0_0 a0_1).bind fun t183 => (if t183 = true then ((spec_DriftOk.f a2_0 a2_1).bind fun t184 => (if t184 = true then ((spec_l1In.f a3 1 1000000000000).bind fun t185 => (if t185 = true then ((spec_PlanOk.f k a4_0 a4_1 l4_2).bind fun t186 => (if t186 = true then ((spec_l4Node.f a5).bind fun t187 => (spec_GateAsk.j0 k a1 a3 a5 (!t187) a0_0 a0_1 a2_0 a2_1 a4_0 a4_1 l4_2)) else (spec_GateAsk.j0 k a1 a3 a5 true a0_0 a0_1 a2_0 a2_1 a4_0 a4_1 l4_2))) else (spec_GateAsk.j0 k a1 a3 a5 true a0_0 a0_1 a2_0 a2_1 a4_0 a4_1 l4_2))) else (spec_GateAsk.j0 k a1 a3 a5 true a0_0 a0_1 a2_0 a2_1 a4_0 a4_1 l4_2))) else (spec_GateAsk.j0 k a1 a3 a5 true a0_0 a0_1 a2_0 a2_1 a4_0 a4_1 l4_2))) else ((spec_DriftOk.f a2_0 a2_1).bind fun t188 => (if t188 = true then ((spec_l1In.f a3 1 1000000000000).bind fun t189 => (if t189 = true then ((spec_PlanOk.f k a4_0 a4_1 l4_2).bind fun t190 => (if t190 = true then ((spec_l4Node.f a5).bind fun t191 => (spec_GateAsk.j0 k a1 a3 a5 (!t191) a0_0 a0_1 a2_0 a2_1 a4_0 a4_1 l4_2)) else (spec_GateAsk.j0 k a1 a3 a5 true a0_0 a0_1 a2_0 a2_1 a4_0 a4_1 l4_2))) else (spec_GateAsk.j0 k a1 a3 a5 true a0_0 a0_1 a2_0 a2_1 a4_0 a4_1 l4_2))) else (spec_GateAsk.j0 k a1 a3 a5 true a0_0 a0_1 a2_0 a2_1 a4_0 a4_1 l4_2)))
theorem spec_GateAsk.mono_l : ∀ k, (∀ y0 y1 y2 y3 y4 y5 y6 y7 y8 y9 y10, LeO (spec_GateAsk.j0 k y0 y1 y2 y3 y4 y5 y6 y7 y8 y9 y10) (spec_GateAsk.j0 (k + 1) y0 y1 y2 y3 y4 y5 y6 y7 y8 y9 y10)) ∧ (∀ y0 y1 y2 y3 y4 y5 y6, LeO (spec_GateAsk.j1 k y0 y1 y2 y3 y4 y5 y6) (spec_GateAsk.j1 (k + 1) y0 y1 y2 y3 y4 y5 y6))
  | 0 => ⟨fun _ _ _ _ _ _ _ _ _ _ _ r h => by simp [spec_GateAsk.j0] at h, fun _ _ _ _ _ _ _ r h => by simp [spec_GateAsk.j1] at h⟩
  | k + 1 => by
    obtain ⟨ih0, ih1⟩ := spec_GateAsk.mono_l k
    refine ⟨?_, ?_⟩
    · intro y0 y1 y2 y3 y4 y5 y6 y7 y8 y9 y10
      unfold spec_GateAsk.j0
      repeat' first
      | (with_reducible exact ih0 _ _ _ _ _ _ _ _ _ _ _)
      | (with_reducible exact ih1 _ _ _ _ _ _ _)
      | (with_reducible exact spec_GateSpan.mono _ _ _ _ _ _)
      | (with_reducible exact spec_InSlot.mono _ _ _ _ _ _ _)
      | (with_reducible exact spec_PlanOk.mono _ _ _ _)
      | (with_reducible exact LeO.refl _)
      | (with_reducible exact LeO.none _)
      | (with_reducible refine LeO.ite ?_ ?_)
      | (with_reducible refine LeO.bind ?_ (fun _ => ?_))
      | exact ih0 _ _ _ _ _ _ _ _ _ _ _
      | exact ih1 _ _ _ _ _ _ _
      | exact spec_GateSpan.mono _ _ _ _ _ _
      | exact spec_InSlot.mono _ _ _ _ _ _ _
      | exact spec_PlanOk.mono _ _ _ _
      | exact LeO.none _
      | refine LeO.ite ?_ ?_
      | refine LeO.bind ?_ (fun _ => ?_)
    · intro y0 y1 y2 y3 y4 y5 y6
      unfold spec_GateAsk.j1
      repeat' first
      | (with_reducible exact ih0 _ _ _ _ _ _ _ _ _ _ _)
      | (with_reducible exact ih1 _ _ _ _ _ _ _)
      | (with_reducible exact spec_GateSpan.mono _ _ _ _ _ _)
      | (with_reducible exact spec_InSlot.mono _ _ _ _ _ _ _)
      | (with_reducible exact spec_PlanOk.mono _ _ _ _)
      | (with_reducible exact LeO.refl _)
      | (with_reducible exact LeO.none _)
      | (with_reducible refine LeO.ite ?_ ?_)
      | (with_reducible refine LeO.bind ?_ (fun _ => ?_))
      | exact ih0 _ _ _ _ _ _ _ _ _ _ _
      | exact ih1 _ _ _ _ _ _ _
      | exact spec_GateSpan.mono _ _ _ _ _ _
      | exact spec_InSlot.mono _ _ _ _ _ _ _
      | exact spec_PlanOk.mono _ _ _ _
      | exact LeO.none _
      | refine LeO.ite ?_ ?_
      | refine LeO.bind ?_ (fun _ => ?_)
theorem spec_GateAsk.mono : ∀ a0 a1 a2 a3 a4 a5 a6 a7 a8 a9 k, LeO (spec_GateAsk.f k a0 a1 a2 a3 a4 a5 a6 a7 a8 a9) (spec_GateAsk.f (k + 1) a0 a1 a2 a3 a4 a5 a6 a7 a8 a9) := by
  intro a0 a1 a2 a3 a4 a5 a6 a7 a8 a9 k
  obtain ⟨ih0, ih1⟩ := spec_GateAsk.mono_l k
  unfold spec_GateAsk.f
  repeat' first
      | (with_reducible exact ih0 _ _ _ _ _ _ _ _ _ _ _)
      | (with_reducible exact ih1 _ _ _ _ _ _ _)
      | (with_reducible exact spec_GateSpan.mono _ _ _ _ _ _)
      | (with_reducible exact spec_InSlot.mono _ _ _ _ _ _ _)
      | (with_reducible exact spec_PlanOk.mono _ _ _ _)
      | (with_reducible exact LeO.refl _)
      | (with_reducible exact LeO.none _)
      | (with_reducible refine LeO.ite ?_ ?_)
      | (with_reducible refine LeO.bind ?_ (fun _ => ?_))
      | exact ih0 _ _ _ _ _ _ _ _ _ _ _
      | exact ih1 _ _ _ _ _ _ _
      | exact spec_GateSpan.mono _ _ _ _ _ _
      | exact spec_InSlot.mono _ _ _ _ _ _ _
      | exact spec_PlanOk.mono _ _ _ _
      | exact LeO.none _
      | refine LeO.ite ?_ ?_
      | refine LeO.bind ?_ (fun _ => ?_)
set_option maxHeartbeats 8000000 in
set_option maxRecDepth 100000 in
theorem spec_GateAsk.calls (k : Nat) (a0_0 : Int) (a0_1 : Int) (a1 : Bool) (a2_0 : Int) (a2_1 : Int) (a3 : Int) (a4_0 : Int) (a4_1 : Int) (A4_2 : Option Addr) (c4_2 : Nat) (l4_2 : List (S55)) (a5 : Int) (r1 : Int) (r2 : Int) (r3 : Int) (w : World) (hr4_2 : Kd.C k55 w A4_2 l4_2.length l4_2) (hc4_2 : l4_2.length ≤ c4_2) (h : spec_GateAsk.f k a0_0 a0_1 a1 a2_0 a2_1 a3 a4_0 a4_1 l4_2 a5 = some (r1, r2, r3)) :
    Calls Try.prog 10 #[.agg #[.int .i64 a0_0, .int .i64 a0_1], .bool a1, .agg #[.int .i64 a2_0, .int .i64 a2_1], .int .i64 a3, .agg #[.int .i64 a4_0, .int .i64 a4_1, .slice A4_2 l4_2.length c4_2], .int .i64 a5] w fun e w' => e = .returned (.tuple #[.int .i64 r1, .int .i64 r2, .int .i64 r3]) ∧ Below w.heap.size w w' := by
  have hu32 := Try.underlying32
  have hu34 := Try.underlying34
  have hu38 := Try.underlying38
  have HR4_2 := Aside0.mk hr4_2
  have HC4_2 := Aside0.mk hc4_2
  clear hr4_2 hc4_2
  have HB := am_ (Below.refl w.heap.size w)
  have H : (if a1 = true then ((spec_IvalOk.f a0_0 a0_1).bind fun t183 => (if t183 = true then ((spec_DriftOk.f a2_0 a2_1).bind fun t184 => (if t184 = true then ((spec_l1In.f a3 1 1000000000000).bind fun t185 => (if t185 = true then ((spec_PlanOk.f k a4_0 a4_1 l4_2).bind fun t186 => (if t186 = true then ((spec_l4Node.f a5).bind fun t187 => (spec_GateAsk.j0 k a1 a3 a5 (!t187) a0_0 a0_1 a2_0 a2_1 a4_0 a4_1 l4_2)) else (spec_GateAsk.j0 k a1 a3 a5 true a0_0 a0_1 a2_0 a2_1 a4_0 a4_1 l4_2))) else (spec_GateAsk.j0 k a1 a3 a5 true a0_0 a0_1 a2_0 a2_1 a4_0 a4_1 l4_2))) else (spec_GateAsk.j0 k a1 a3 a5 true a0_0 a0_1 a2_0 a2_1 a4_0 a4_1 l4_2))) else (spec_GateAsk.j0 k a1 a3 a5 true a0_0 a0_1 a2_0 a2_1 a4_0 a4_1 l4_2))) else ((spec_DriftOk.f a2_0 a2_1).bind fun t188 => (if t188 = true then ((spec_l1In.f a3 1 1000000000000).bind fun t189 => (if t189 = true then ((spec_PlanOk.f k a4_0 a4_1 l4_2).bind fun t190 => (if t190 = true then ((spec_l4Node.f a5).bind fun t191 => (spec_GateAsk.j0 k a1 a3 a5 (!t191) a0_0 a0_1 a2_0 a2_1 a4_0 a4_1 l4_2)) else (spec_GateAsk.j0 k a1 a3 a5 true a0_0 a0_1 a2_0 a2_1 a4_0 a4_1 l4_2))) else (spec_GateAsk.j0 k a1 a3 a5 true a0_0 a0_1 a2_0 a2_1 a4_0 a4_1 l4_2))) else (spec_GateAsk.j0 k a1 a3 a5 true a0_0 a0_1 a2_0 a2_1 a4_0 a4_1 l4_2)))) = some (r1, r2, r3) := h
  clear h
  have HC7 := Aside0.mk H
  clear H
  go_enter Try.func10, Try.ntmps10
  go_upto_region 1 with (first | ((with_reducible refine gate_dst (N := 6) rfl ?_); refine box_event ?hg (N := 6) ?hd (cs := #[.int .i64 a0_0, .int .i64 a0_1]) (t := 32) ?hr ?_; (case hd => rfl); (case hg => rfl); (case hr => first|(go_simp;done)|(go_simp;rfl)); intro gb180 hg w8 hbox hb; have n0_ := am_ (below_step (hb_ HB.out) hb); have n1_ := am_ (hbox); have n2_ := am_ (hy_ hg (hb_ HB.out) : w.heap.size ≤ gb180); have n3_ := am_ (hy_ hg (hb_ HB.out) : w.heap.size ≤ gb180); clear HB; have HB := n0_; have BK180 := n1_; have GW180 := n2_; have GE180 := n3_; clear n0_ n1_ n2_ n3_; clear hb hbox hg) | ((with_reducible refine gate_dst (N := 8) rfl ?_); refine box_event ?hg (N := 8) ?hd (cs := #[.int .i64 a2_0, .int .i64 a2_1]) (t := 34) ?hr ?_; (case hd => rfl); (case hg => rfl); (case hr => first|(go_simp;done)|(go_simp;rfl)); intro gb181 hg w9 hbox hb; have n0_ := am_ (bb_ BK180.out hb); have n1_ := am_ (below_step (hb1_ HB.out GE180.out) hb); have n2_ := am_ (hbox); have n3_ := am_ (hy_ hg (hb1_ HB.out GE180.out) : w.heap.size ≤ gb181); have n4_ := am_ (hy_ hg (hb1_ HB.out GE180.out) : w.heap.size ≤ gb181); have n5_ := am_ ((bl_ hg BK180.out : gb180 ≠ gb181)); have n6_ := am_ ((bg_ hg BK180.out : gb181 ≠ gb180)); clear BK180; clear HB; have BK180 := n0_; have HB := n1_; have BK181 := n2_; have GW181 := n3_; have GE181 := n4_; have NB180_181 := n5_; have NB181_180 := n6_; clear n0_ n1_ n2_ n3_ n4_ n5_ n6_; clear hb hbox hg) | ((with_reducible refine gate_dst (N := 10) rfl ?_); refine box_event ?hg (N := 10) ?hd (cs := #[.int .i64 a4_0, .int .i64 a4_1, .slice A4_2 l4_2.length c4_2]) (t := 38) ?hr ?_; (case hd => rfl); (case hg => rfl); (case hr => first|(go_simp;done)|(go_simp;rfl)); intro gb182 hg w10 hbox hb; have n0_ := am_ (bb_ BK180.out hb); have n1_ := am_ (bb_ BK181.out hb); have n2_ := am_ (below_step (hb2_ HB.out GE180.out GE181.out) hb); have n3_ := am_ (hbox); have n4_ := am_ (hy_ hg (hb2_ HB.out GE180.out GE181.out) : w.heap.size ≤ gb182); have n5_ := am_ (hy_ hg (hb2_ HB.out GE180.out GE181.out) : w.heap.size ≤ gb182); have n6_ := am_ ((bl_ hg BK180.out : gb180 ≠ gb182)); have n7_ := am_ ((bg_ hg BK180.out : gb182 ≠ gb180)); have n8_ := am_ ((bl_ hg BK181.out : gb181 ≠ gb182)); have n9_ := am_ ((bg_ hg BK181.out : gb182 ≠ gb181)); clear BK180; clear BK181; clear HB; have BK180 := n0_; have BK181 := n1_; have HB := n2_; have BK182 := n3_; have GW182 := n4_; have GE182 := n5_; have NB180_182 := n6_; have NB182_180 := n7_; have NB181_182 := n8_; have NB182_181 := n9_; clear n0_ n1_ n2_ n3_ n4_ n5_ n6_ n7_ n8_ n9_; clear hb hbox hg))
  (try simp only [Act.put, List.setIfInBounds_toArray, List.set_cons_zero, List.set_cons_succ])
  go_cut [45] (fun v45 wc => ∃ (kq : Nat) (x45_6 : Bool), v45 = .bool x45_6 ∧ Aside0 (spec_GateAsk.j0 kq a1 a3 a5 x45_6 a0_0 a0_1 a2_0 a2_1 a4_0 a4_1 l4_2 = some (r1, r2, r3)) ∧ Aside0 (kq ≤ k) ∧ Aside0 (wc.heap[gb180]? = some (.cells #[.int .i64 a0_0, .int .i64 a0_1] 32 (0, 0))) ∧ Aside0 (wc.heap[gb181]? = some (.cells #[.int .i64 a2_0, .int .i64 a2_1] 34 (0, 0))) ∧ Aside0 (wc.heap[gb182]? = some (.cells #[.int .i64 a4_0, .int .i64 a4_1, (.slice A4_2 l4_2.length c4_2)] 38 (0, 0))) ∧ Aside0 (Below w.heap.size w wc))
  case first =>
    have H := HC7.out
    clear HC7
    by_cases c11 : a1 = true
    · subst c11
      have H1 : ((spec_IvalOk.f a0_0 a0_1).bind fun t183 => (if t183 = true then ((spec_DriftOk.f a2_0 a2_1).bind fun t184 => (if t184 = true then ((spec_l1In.f a3 1 1000000000000).bind fun t185 => (if t185 = true then ((spec_PlanOk.f k a4_0 a4_1 l4_2).bind fun t186 => (if t186 = true then ((spec_l4Node.f a5).bind fun t187 => (spec_GateAsk.j0 k true a3 a5 (!t187) a0_0 a0_1 a2_0 a2_1 a4_0 a4_1 l4_2)) else (spec_GateAsk.j0 k true a3 a5 true a0_0 a0_1 a2_0 a2_1 a4_0 a4_1 l4_2))) else (spec_GateAsk.j0 k true a3 a5 true a0_0 a0_1 a2_0 a2_1 a4_0 a4_1 l4_2))) else (spec_GateAsk.j0 k true a3 a5 true a0_0 a0_1 a2_0 a2_1 a4_0 a4_1 l4_2))) else (spec_GateAsk.j0 k true a3 a5 true a0_0 a0_1 a2_0 a2_1 a4_0 a4_1 l4_2))) = some (r1, r2, r3) := by rw [if_pos rfl] at H; exact H
      clear H
      have H := H1
      clear H1
      replace H := Option.bind_eq_some_iff.mp H
      obtain ⟨t183, A120, H⟩ := H
      replace H : (if t183 = true then ((spec_DriftOk.f a2_0 a2_1).bind fun t184 => (if t184 = true then ((spec_l1In.f a3 1 1000000000000).bind fun t185 => (if t185 = true then ((spec_PlanOk.f k a4_0 a4_1 l4_2).bind fun t186 => (if t186 = true then ((spec_l4Node.f a5).bind fun t187 => (spec_GateAsk.j0 k true a3 a5 (!t187) a0_0 a0_1 a2_0 a2_1 a4_0 a4_1 l4_2)) else (spec_GateAsk.j0 k true a3 a5 true a0_0 a0_1 a2_0 a2_1 a4_0 a4_1 l4_2))) else (spec_GateAsk.j0 k true a3 a5 true a0_0 a0_1 a2_0 a2_1 a4_0 a4_1 l4_2))) else (spec_GateAsk.j0 k true a3 a5 true a0_0 a0_1 a2_0 a2_1 a4_0 a4_1 l4_2))) else (spec_GateAsk.j0 k true a3 a5 true a0_0 a0_1 a2_0 a2_1 a4_0 a4_1 l4_2)) = some (r1, r2, r3) := H
      have A12 := Aside0.mk A120
      clear A120
      by_cases c13 : t183 = true
      · subst c13
        have H1 : ((spec_DriftOk.f a2_0 a2_1).bind fun t184 => (if t184 = true then ((spec_l1In.f a3 1 1000000000000).bind fun t185 => (if t185 = true then ((spec_PlanOk.f k a4_0 a4_1 l4_2).bind fun t186 => (if t186 = true then ((spec_l4Node.f a5).bind fun t187 => (spec_GateAsk.j0 k true a3 a5 (!t187) a0_0 a0_1 a2_0 a2_1 a4_0 a4_1 l4_2)) else (spec_GateAsk.j0 k true a3 a5 true a0_0 a0_1 a2_0 a2_1 a4_0 a4_1 l4_2))) else (spec_GateAsk.j0 k true a3 a5 true a0_0 a0_1 a2_0 a2_1 a4_0 a4_1 l4_2))) else (spec_GateAsk.j0 k true a3 a5 true a0_0 a0_1 a2_0 a2_1 a4_0 a4_1 l4_2))) = some (r1, r2, r3) := by rw [if_pos rfl] at H; exact H
        clear H
        have H := H1
        clear H1
        replace H := Option.bind_eq_some_iff.mp H
        obtain ⟨t184, A140, H⟩ := H
        replace H : (if t184 = true then ((spec_l1In.f a3 1 1000000000000).bind fun t185 => (if t185 = true then ((spec_PlanOk.f k a4_0 a4_1 l4_2).bind fun t186 => (if t186 = true then ((spec_l4Node.f a5).bind fun t187 => (spec_GateAsk.j0 k true a3 a5 (!t187) a0_0 a0_1 a2_0 a2_1 a4_0 a4_1 l4_2)) else (spec_GateAsk.j0 k true a3 a5 true a0_0 a0_1 a2_0 a2_1 a4_0 a4_1 l4_2))) else (spec_GateAsk.j0 k true a3 a5 true a0_0 a0_1 a2_0 a2_1 a4_0 a4_1 l4_2))) else (spec_GateAsk.j0 k true a3 a5 true a0_0 a0_1 a2_0 a2_1 a4_0 a4_1 l4_2)) = some (r1, r2, r3) := H
        have A14 := Aside0.mk A140
        clear A140
        by_cases c15 : t184 = true
        · subst c15
          have H1 : ((spec_l1In.f a3 1 1000000000000).bind fun t185 => (if t185 = true then ((spec_PlanOk.f k a4_0 a4_1 l4_2).bind fun t186 => (if t186 = true then ((spec_l4Node.f a5).bind fun t187 => (spec_GateAsk.j0 k true a3 a5 (!t187) a0_0 a0_1 a2_0 a2_1 a4_0 a4_1 l4_2)) else (spec_GateAsk.j0 k true a3 a5 true a0_0 a0_1 a2_0 a2_1 a4_0 a4_1 l4_2))) else (spec_GateAsk.j0 k true a3 a5 true a0_0 a0_1 a2_0 a2_1 a4_0 a4_1 l4_2))) = some (r1, r2, r3) := by rw [if_pos rfl] at H; exact H
          clear H
          have H := H1
          clear H1
          replace H := Option.bind_eq_some_iff.mp H
          obtain ⟨t185, A160, H⟩ := H
          replace H : (if t185 = true then ((spec_PlanOk.f k a4_0 a4_1 l4_2).bind fun t186 => (if t186 = true then ((spec_l4Node.f a5).bind fun t187 => (spec_GateAsk.j0 k true a3 a5 (!t187) a0_0 a0_1 a2_0 a2_1 a4_0 a4_1 l4_2)) else (spec_GateAsk.j0 k true a3 a5 true a0_0 a0_1 a2_0 a2_1 a4_0 a4_1 l4_2))) else (spec_GateAsk.j0 k true a3 a5 true a0_0 a0_1 a2_0 a2_1 a4_0 a4_1 l4_2)) = some (r1, r2, r3) := H
          have A16 := Aside0.mk A160
          clear A160
          by_cases c17 : t185 = true
          · subst c17
            have H1 : ((spec_PlanOk.f k a4_0 a4_1 l4_2).bind fun t186 => (if t186 = true then ((spec_l4Node.f a5).bind fun t187 => (spec_GateAsk.j0 k true a3 a5 (!t187) a0_0 a0_1 a2_0 a2_1 a4_0 a4_1 l4_2)) else (spec_GateAsk.j0 k true a3 a5 true a0_0 a0_1 a2_0 a2_1 a4_0 a4_1 l4_2))) = some (r1, r2, r3) := by rw [if_pos rfl] at H; exact H
            clear H
            have H := H1
            clear H1
            replace H := Option.bind_eq_some_iff.mp H
            obtain ⟨t186, A180, H⟩ := H
            replace H : (if t186 = true then ((spec_l4Node.f a5).bind fun t187 => (spec_GateAsk.j0 k true a3 a5 (!t187) a0_0 a0_1 a2_0 a2_1 a4_0 a4_1 l4_2)) else (spec_GateAsk.j0 k true a3 a5 true a0_0 a0_1 a2_0 a2_1 a4_0 a4_1 l4_2)) = some (r1, r2, r3) := H
            have A18 := Aside0.mk A180
            clear A180
            by_cases c19 : t186 = true
            · subst c19
              have H1 : ((spec_l4Node.f a5).bind fun t187 => (spec_GateAsk.j0 k true a3 a5 (!t187) a0_0 a0_1 a2_0 a2_1 a4_0 a4_1 l4_2)) = some (r1, r2, r3) := by rw [if_pos rfl] at H; exact H
              clear H
              have H := H1
              clear H1
              replace H := Option.bind_eq_some_iff.mp H
              obtain ⟨t187, A200, H⟩ := H
              replace H : (spec_GateAsk.j0 k true a3 a5 (!t187) a0_0 a0_1 a2_0 a2_1 a4_0 a4_1 l4_2) = some (r1, r2, r3) := H
              have A20 := Aside0.mk A200
              clear A200
              have H' := Aside0.mk H
              clear H
              have hnb21 := NB180_181.out
              have hnc21 := NB181_180.out
              have hnb22 := NB180_182.out
              have hnc22 := NB182_180.out
              have hcz23_0 := bc_ BK180.out 0 (.int .i64 a0_0) rfl
              have hcz23_1 := bc_ BK180.out 1 (.int .i64 a0_1) rfl
              have hfz23_0 := blk_frozen BK180.out 0
              have hfz23_1 := blk_frozen BK180.out 1
              go_wp2_with (first | (go_at_call 36; (with_reducible refine (spec_IvalOk.calls a0_0 a0_1 true _ A12.out).mono ?_); rintro e w24 ⟨rfl, hb⟩; have n0_ := am_ (bb_ BK180.out hb); have n1_ := am_ (bb_ BK181.out hb); have n2_ := am_ (bb_ BK182.out hb); have n3_ := am_ (below_step (hb3_ HB.out GE180.out GE181.out GE182.out) hb); clear BK180; clear BK181; clear BK182; clear HB; have BK180 := n0_; have BK181 := n1_; have BK182 := n2_; have HB := n3_; clear n0_ n1_ n2_ n3_; (try clear hb); (try clear hb2); (try clear hk); (try clear hi); have hnb25 := NB181_182.out; have hnc25 := NB182_181.out; have hcz26_0 := bc_ BK181.out 0 (.int .i64 a2_0) rfl; have hcz26_1 := bc_ BK181.out 1 (.int .i64 a2_1) rfl; have hfz26_0 := blk_frozen BK181.out 0; have hfz26_1 := blk_frozen BK181.out 1) | (go_at_call 37; (with_reducible refine (spec_DriftOk.calls a2_0 a2_1 true _ A14.out).mono ?_); rintro e w27 ⟨rfl, hb⟩; have n0_ := am_ (bb_ BK180.out hb); have n1_ := am_ (bb_ BK181.out hb); have n2_ := am_ (bb_ BK182.out hb); have n3_ := am_ (below_step (hb3_ HB.out GE180.out GE181.out GE182.out) hb); clear BK180; clear BK181; clear BK182; clear HB; have BK180 := n0_; have BK181 := n1_; have BK182 := n2_; have HB := n3_; clear n0_ n1_ n2_ n3_; (try clear hb); (try clear hb2); (try clear hk); (try clear hi)) | (go_at_call 38; (with_reducible refine (spec_l1In.calls a3 1 1000000000000 true _ A16.out).mono ?_); rintro e w' ⟨rfl, ⟨nd, rfl⟩⟩; have hcz28_0 := bc_ BK182.out 0 (.int .i64 a4_0) rfl; have hcz28_1 := bc_ BK182.out 1 (.int .i64 a4_1) rfl; have hcz28_2 := bc_ BK182.out 2 (.slice A4_2 l4_2.length c4_2) rfl; have hfz28_0 := blk_frozen BK182.out 0; have hfz28_1 := blk_frozen BK182.out 1; have hfz28_2 := blk_frozen BK182.out 2) | (go_at_call 39; (with_reducible refine (spec_PlanOk.calls k a4_0 a4_1 _ _ l4_2 true _ ?side1 ?side2 A18.out).mono ?_); (case side1 => repeat (first | exact (Kd.C_below HR4_2.out (hb3_ HB.out GE180.out GE181.out GE182.out)) | (with_reducible refine Kd.C_alloc ?_ _) | (with_reducible refine Kd.C_drewN ?_ _) | (with_reducible refine Kd.C_drew ?_))); (case side2 => exact HC4_2.out); rintro e w29 ⟨rfl, hb⟩; have n0_ := am_ (bb_ BK180.out hb); have n1_ := am_ (bb_ BK181.out hb); have n2_ := am_ (bb_ BK182.out hb); have n3_ := am_ (below_step (hb3_ HB.out GE180.out GE181.out GE182.out) hb); clear BK180; clear BK181; clear BK182; clear HB; have BK180 := n0_; have BK181 := n1_; have BK182 := n2_; have HB := n3_; clear n0_ n1_ n2_ n3_; (try clear hb); (try clear hb2); (try clear hk); (try clear hi)) | (go_at_call 40; (with_reducible refine (spec_l4Node.calls a5 t187 _ A20.out).mono ?_); rintro e w' ⟨rfl, ⟨nd, rfl⟩⟩))
              go_meet
              case rel => exact ⟨_, (!t187), (by first | rfl | (simp; done) | (simp [*]; done)), H', ⟨by first | omega | exact Nat.le_refl _⟩, ⟨bk_ BK180.out⟩, ⟨bk_ BK181.out⟩, ⟨bk_ BK182.out⟩, ⟨hb3_ HB.out GE180.out GE181.out GE182.out⟩⟩
            · replace c19 := Bool.eq_false_iff.mpr c19
              subst c19
              have H1 : (spec_GateAsk.j0 k true a3 a5 true a0_0 a0_1 a2_0 a2_1 a4_0 a4_1 l4_2) = some (r1, r2, r3) := by rw [if_neg (show ¬ (false = true) by decide)] at H; exact H
              clear H
              have H := H1
              clear H1
              have H' := Aside0.mk H
              clear H
              have hnb30 := NB180_181.out
              have hnc30 := NB181_180.out
              have hnb31 := NB180_182.out
              have hnc31 := NB182_180.out
              have hcz32_0 := bc_ BK180.out 0 (.int .i64 a0_0) rfl
              have hcz32_1 := bc_ BK180.out 1 (.int .i64 a0_1) rfl
              have hfz32_0 := blk_frozen BK180.out 0
              have hfz32_1 := blk_frozen BK180.out 1
              go_wp2_with (first | (go_at_call 36; (with_reducible refine (spec_IvalOk.calls a0_0 a0_1 true _ A12.out).mono ?_); rintro e w33 ⟨rfl, hb⟩; have n0_ := am_ (bb_ BK180.out hb); have n1_ := am_ (bb_ BK181.out hb); have n2_ := am_ (bb_ BK182.out hb); have n3_ := am_ (below_step (hb3_ HB.out GE180.out GE181.out GE182.out) hb); clear BK180; clear BK181; clear BK182; clear HB; have BK180 := n0_; have BK181 := n1_; have BK182 := n2_; have HB := n3_; clear n0_ n1_ n2_ n3_; (try clear hb); (try clear hb2); (try clear hk); (try clear hi); have hnb34 := NB181_182.out; have hnc34 := NB182_181.out; have hcz35_0 := bc_ BK181.out 0 (.int .i64 a2_0) rfl; have hcz35_1 := bc_ BK181.out 1 (.int .i64 a2_1) rfl; have hfz35_0 := blk_frozen BK181.out 0; have hfz35_1 := blk_frozen BK181.out 1) | (go_at_call 37; (with_reducible refine (spec_DriftOk.calls a2_0 a2_1 true _ A14.out).mono ?_); rintro e w36 ⟨rfl, hb⟩; have n0_ := am_ (bb_ BK180.out hb); have n1_ := am_ (bb_ BK181.out hb); have n2_ := am_ (bb_ BK182.out hb); have n3_ := am_ (below_step (hb3_ HB.out GE180.out GE181.out GE182.out) hb); clear BK180; clear BK181; clear BK182; clear HB; have BK180 := n0_; have BK181 := n1_; have BK182 := n2_; have HB := n3_; clear n0_ n1_ n2_ n3_; (try clear hb); (try clear hb2); (try clear hk); (try clear hi)) | (go_at_call 38; (with_reducible refine (spec_l1In.calls a3 1 1000000000000 true _ A16.out).mono ?_); rintro e w' ⟨rfl, ⟨nd, rfl⟩⟩; have hcz37_0 := bc_ BK182.out 0 (.int .i64 a4_0) rfl; have hcz37_1 := bc_ BK182.out 1 (.int .i64 a4_1) rfl; have hcz37_2 := bc_ BK182.out 2 (.slice A4_2 l4_2.length c4_2) rfl; have hfz37_0 := blk_frozen BK182.out 0; have hfz37_1 := blk_frozen BK182.out 1; have hfz37_2 := blk_frozen BK182.out 2) | (go_at_call 39; (with_reducible refine (spec_PlanOk.calls k a4_0 a4_1 _ _ l4_2 false _ ?side1 ?side2 A18.out).mono ?_); (case side1 => repeat (first | exact (Kd.C_below HR4_2.out (hb3_ HB.out GE180.out GE181.out GE182.out)) | (with_reducible refine Kd.C_alloc ?_ _) | (with_reducible refine Kd.C_drewN ?_ _) | (with_reducible refine Kd.C_drew ?_))); (case side2 => exact HC4_2.out); rintro e w38 ⟨rfl, hb⟩; have n0_ := am_ (bb_ BK180.out hb); have n1_ := am_ (bb_ BK181.out hb); have n2_ := am_ (bb_ BK182.out hb); have n3_ := am_ (below_step (hb3_ HB.out GE180.out GE181.out GE182.out) hb); clear BK180; clear BK181; clear BK182; clear HB; have BK180 := n0_; have BK181 := n1_; have BK182 := n2_; have HB := n3_; clear n0_ n1_ n2_ n3_; (try clear hb); (try clear hb2); (try clear hk); (try clear hi)))
              go_meet
              case rel => exact ⟨_, (true), (by first | rfl | (simp; done) | (simp [*]; done)), H', ⟨by first | omega | exact Nat.le_refl _⟩, ⟨bk_ BK180.out⟩, ⟨bk_ BK181.out⟩, ⟨bk_ BK182.out⟩, ⟨hb3_ HB.out GE180.out GE181.out GE182.out⟩⟩
          · replace c17 := Bool.eq_false_iff.mpr c17
            subst c17
            have H1 : (spec_GateAsk.j0 k true a3 a5 true a0_0 a0_1 a2_0 a2_1 a4_0 a4_1 l4_2) = some (r1, r2, r3) := by rw [if_neg (show ¬ (false = true) by decide)] at H; exact H
            clear H
            have H := H1
            clear H1
            have H' := Aside0.mk H
            clear H
            have hnb39 := NB180_181.out
            have hnc39 := NB181_180.out
            have hnb40 := NB180_182.out
            have hnc40 := NB182_180.out
            have hcz41_0 := bc_ BK180.out 0 (.int .i64 a0_0) rfl
            have hcz41_1 := bc_ BK180.out 1 (.int .i64 a0_1) rfl
            have hfz41_0 := blk_frozen BK180.out 0
            have hfz41_1 := blk_frozen BK180.out 1
            go_wp2_with (first | (go_at_call 36; (with_reducible refine (spec_IvalOk.calls a0_0 a0_1 true _ A12.out).mono ?_); rintro e w42 ⟨rfl, hb⟩; have n0_ := am_ (bb_ BK180.out hb); have n1_ := am_ (bb_ BK181.out hb); have n2_ := am_ (bb_ BK182.out hb); have n3_ := am_ (below_step (hb3_ HB.out GE180.out GE181.out GE182.out) hb); clear BK180; clear BK181; clear BK182; clear HB; have BK180 := n0_; have BK181 := n1_; have BK182 := n2_; have HB := n3_; clear n0_ n1_ n2_ n3_; (try clear hb); (try clear hb2); (try clear hk); (try clear hi); have hnb43 := NB181_182.out; have hnc43 := NB182_181.out; have hcz44_0 := bc_ BK181.out 0 (.int .i64 a2_0) rfl; have hcz44_1 := bc_ BK181.out 1 (.int .i64 a2_1) rfl; have hfz44_0 := blk_frozen BK181.out 0; have hfz44_1 := blk_frozen BK181.out 1) | (go_at_call 37; (with_reducible refine (spec_DriftOk.calls a2_0 a2_1 true _ A14.out).mono ?_); rintro e w45 ⟨rfl, hb⟩; have n0_ := am_ (bb_ BK180.out hb); have n1_ := am_ (bb_ BK181.out hb); have n2_ := am_ (bb_ BK182.out hb); have n3_ := am_ (below_step (hb3_ HB.out GE180.out GE181.out GE182.out) hb); clear BK180; clear BK181; clear BK182; clear HB; have BK180 := n0_; have BK181 := n1_; have BK182 := n2_; have HB := n3_; clear n0_ n1_ n2_ n3_; (try clear hb); (try clear hb2); (try clear hk); (try clear hi)) | (go_at_call 38; (with_reducible refine (spec_l1In.calls a3 1 1000000000000 false _ A16.out).mono ?_); rintro e w' ⟨rfl, ⟨nd, rfl⟩⟩))
            go_meet
            case rel => exact ⟨_, (true), (by first | rfl | (simp; done) | (simp [*]; done)), H', ⟨by first | omega | exact Nat.le_refl _⟩, ⟨bk_ BK180.out⟩, ⟨bk_ BK181.out⟩, ⟨bk_ BK182.out⟩, ⟨hb3_ HB.out GE180.out GE181.out GE182.out⟩⟩
        · replace c15 := Bool.eq_false_iff.mpr c15
          subst c15
          have H1 : (spec_GateAsk.j0 k true a3 a5 true a0_0 a0_1 a2_0 a2_1 a4_0 a4_1 l4_2) = some (r1, r2, r3) := by rw [if_neg (show ¬ (false = true) by decide)] at H; exact H
          clear H
          have H := H1
          clear H1
          have H' := Aside0.mk H
          clear H
          have hnb46 := NB180_181.out
          have hnc46 := NB181_180.out
          have hnb47 := NB180_182.out
          have hnc47 := NB182_180.out
          have hcz48_0 := bc_ BK180.out 0 (.int .i64 a0_0) rfl
          have hcz48_1 := bc_ BK180.out 1 (.int .i64 a0_1) rfl
          have hfz48_0 := blk_frozen BK180.out 0
          have hfz48_1 := blk_frozen BK180.out 1
          go_wp2_with (first | (go_at_call 36; (with_reducible refine (spec_IvalOk.calls a0_0 a0_1 true _ A12.out).mono ?_); rintro e w49 ⟨rfl, hb⟩; have n0_ := am_ (bb_ BK180.out hb); have n1_ := am_ (bb_ BK181.out hb); have n2_ := am_ (bb_ BK182.out hb); have n3_ := am_ (below_step (hb3_ HB.out GE180.out GE181.out GE182.out) hb); clear BK180; clear BK181; clear BK182; clear HB; have BK180 := n0_; have BK181 := n1_; have BK182 := n2_; have HB := n3_; clear n0_ n1_ n2_ n3_; (try clear hb); (try clear hb2); (try clear hk); (try clear hi); have hnb50 := NB181_182.out; have hnc50 := NB182_181.out; have hcz51_0 := bc_ BK181.out 0 (.int .i64 a2_0) rfl; have hcz51_1 := bc_ BK181.out 1 (.int .i64 a2_1) rfl; have hfz51_0 := blk_frozen BK181.out 0; have hfz51_1 := blk_frozen BK181.out 1) | (go_at_call 37; (with_reducible refine (spec_DriftOk.calls a2_0 a2_1 false _ A14.out).mono ?_); rintro e w52 ⟨rfl, hb⟩; have n0_ := am_ (bb_ BK180.out hb); have n1_ := am_ (bb_ BK181.out hb); have n2_ := am_ (bb_ BK182.out hb); have n3_ := am_ (below_step (hb3_ HB.out GE180.out GE181.out GE182.out) hb); clear BK180; clear BK181; clear BK182; clear HB; have BK180 := n0_; have BK181 := n1_; have BK182 := n2_; have HB := n3_; clear n0_ n1_ n2_ n3_; (try clear hb); (try clear hb2); (try clear hk); (try clear hi)))
          go_meet
          case rel => exact ⟨_, (true), (by first | rfl | (simp; done) | (simp [*]; done)), H', ⟨by first | omega | exact Nat.le_refl _⟩, ⟨bk_ BK180.out⟩, ⟨bk_ BK181.out⟩, ⟨bk_ BK182.out⟩, ⟨hb3_ HB.out GE180.out GE181.out GE182.out⟩⟩
      · replace c13 := Bool.eq_false_iff.mpr c13
        subst c13
        have H1 : (spec_GateAsk.j0 k true a3 a5 true a0_0 a0_1 a2_0 a2_1 a4_0 a4_1 l4_2) = some (r1, r2, r3) := by rw [if_neg (show ¬ (false = true) by decide)] at H; exact H
        clear H
        have H := H1
        clear H1
        have H' := Aside0.mk H
        clear H
        have hnb53 := NB180_181.out
        have hnc53 := NB181_180.out
        have hnb54 := NB180_182.out
        have hnc54 := NB182_180.out
        have hcz55_0 := bc_ BK180.out 0 (.int .i64 a0_0) rfl
        have hcz55_1 := bc_ BK180.out 1 (.int .i64 a0_1) rfl
        have hfz55_0 := blk_frozen BK180.out 0
        have hfz55_1 := blk_frozen BK180.out 1
        go_wp2_with (first | (go_at_call 36; (with_reducible refine (spec_IvalOk.calls a0_0 a0_1 false _ A12.out).mono ?_); rintro e w56 ⟨rfl, hb⟩; have n0_ := am_ (bb_ BK180.out hb); have n1_ := am_ (bb_ BK181.out hb); have n2_ := am_ (bb_ BK182.out hb); have n3_ := am_ (below_step (hb3_ HB.out GE180.out GE181.out GE182.out) hb); clear BK180; clear BK181; clear BK182; clear HB; have BK180 := n0_; have BK181 := n1_; have BK182 := n2_; have HB := n3_; clear n0_ n1_ n2_ n3_; (try clear hb); (try clear hb2); (try clear hk); (try clear hi)))
        go_meet
        case rel => exact ⟨_, (true), (by first | rfl | (simp; done) | (simp [*]; done)), H', ⟨by first | omega | exact Nat.le_refl _⟩, ⟨bk_ BK180.out⟩, ⟨bk_ BK181.out⟩, ⟨bk_ BK182.out⟩, ⟨hb3_ HB.out GE180.out GE181.out GE182.out⟩⟩
    · replace c11 := Bool.eq_false_iff.mpr c11
      subst c11
      have H1 : ((spec_DriftOk.f a2_0 a2_1).bind fun t188 => (if t188 = true then ((spec_l1In.f a3 1 1000000000000).bind fun t189 => (if t189 = true then ((spec_PlanOk.f k a4_0 a4_1 l4_2).bind fun t190 => (if t190 = true then ((spec_l4Node.f a5).bind fun t191 => (spec_GateAsk.j0 k false a3 a5 (!t191) a0_0 a0_1 a2_0 a2_1 a4_0 a4_1 l4_2)) else (spec_GateAsk.j0 k false a3 a5 true a0_0 a0_1 a2_0 a2_1 a4_0 a4_1 l4_2))) else (spec_GateAsk.j0 k false a3 a5 true a0_0 a0_1 a2_0 a2_1 a4_0 a4_1 l4_2))) else (spec_GateAsk.j0 k false a3 a5 true a0_0 a0_1 a2_0 a2_1 a4_0 a4_1 l4_2))) = some (r1, r2, r3) := by rw [if_neg (show ¬ (false = true) by decide)] at H; exact H
      clear H
      have H := H1
      clear H1
      replace H := Option.bind_eq_some_iff.mp H
      obtain ⟨t188, A570, H⟩ := H
      replace H : (if t188 = true then ((spec_l1In.f a3 1 1000000000000).bind fun t189 => (if t189 = true then ((spec_PlanOk.f k a4_0 a4_1 l4_2).bind fun t190 => (if t190 = true then ((spec_l4Node.f a5).bind fun t191 => (spec_GateAsk.j0 k false a3 a5 (!t191) a0_0 a0_1 a2_0 a2_1 a4_0 a4_1 l4_2)) else (spec_GateAsk.j0 k false a3 a5 true a0_0 a0_1 a2_0 a2_1 a4_0 a4_1 l4_2))) else (spec_GateAsk.j0 k false a3 a5 true a0_0 a0_1 a2_0 a2_1 a4_0 a4_1 l4_2))) else (spec_GateAsk.j0 k false a3 a5 true a0_0 a0_1 a2_0 a2_1 a4_0 a4_1 l4_2)) = some (r1, r2, r3) := H
      have A57 := Aside0.mk A570
      clear A570
      by_cases c58 : t188 = true
      · subst c58
        have H1 : ((spec_l1In.f a3 1 1000000000000).bind fun t189 => (if t189 = true then ((spec_PlanOk.f k a4_0 a4_1 l4_2).bind fun t190 => (if t190 = true then ((spec_l4Node.f a5).bind fun t191 => (spec_GateAsk.j0 k false a3 a5 (!t191) a0_0 a0_1 a2_0 a2_1 a4_0 a4_1 l4_2)) else (spec_GateAsk.j0 k false a3 a5 true a0_0 a0_1 a2_0 a2_1 a4_0 a4_1 l4_2))) else (spec_GateAsk.j0 k false a3 a5 true a0_0 a0_1 a2_0 a2_1 a4_0 a4_1 l4_2))) = some (r1, r2, r3) := by rw [if_pos rfl] at H; exact H
        clear H
        have H := H1
        clear H1
        replace H := Option.bind_eq_some_iff.mp H
        obtain ⟨t189, A590, H⟩ := H
        replace H : (if t189 = true then ((spec_PlanOk.f k a4_0 a4_1 l4_2).bind fun t190 => (if t190 = true then ((spec_l4Node.f a5).bind fun t191 => (spec_GateAsk.j0 k false a3 a5 (!t191) a0_0 a0_1 a2_0 a2_1 a4_0 a4_1 l4_2)) else (spec_GateAsk.j0 k false a3 a5 true a0_0 a0_1 a2_0 a2_1 a4_0 a4_1 l4_2))) else (spec_GateAsk.j0 k false a3 a5 true a0_0 a0_1 a2_0 a2_1 a4_0 a4_1 l4_2)) = some (r1, r2, r3) := H
        have A59 := Aside0.mk A590
        clear A590
        by_cases c60 : t189 = true
        · subst c60
          have H1 : ((spec_PlanOk.f k a4_0 a4_1 l4_2).bind fun t190 => (if t190 = true then ((spec_l4Node.f a5).bind fun t191 => (spec_GateAsk.j0 k false a3 a5 (!t191) a0_0 a0_1 a2_0 a2_1 a4_0 a4_1 l4_2)) else (spec_GateAsk.j0 k false a3 a5 true a0_0 a0_1 a2_0 a2_1 a4_0 a4_1 l4_2))) = some (r1, r2, r3) := by rw [if_pos rfl] at H; exact H
          clear H
          have H := H1
          clear H1
          replace H := Option.bind_eq_some_iff.mp H
          obtain ⟨t190, A610, H⟩ := H
          replace H : (if t190 = true then ((spec_l4Node.f a5).bind fun t191 => (spec_GateAsk.j0 k false a3 a5 (!t191) a0_0 a0_1 a2_0 a2_1 a4_0 a4_1 l4_2)) else (spec_GateAsk.j0 k false a3 a5 true a0_0 a0_1 a2_0 a2_1 a4_0 a4_1 l4_2)) = some (r1, r2, r3) := H
          have A61 := Aside0.mk A610
          clear A610
          by_cases c62 : t190 = true
          · subst c62
            have H1 : ((spec_l4Node.f a5).bind fun t191 => (spec_GateAsk.j0 k false a3 a5 (!t191) a0_0 a0_1 a2_0 a2_1 a4_0 a4_1 l4_2)) = some (r1, r2, r3) := by rw [if_pos rfl] at H; exact H
            clear H
            have H := H1
            clear H1
            replace H := Option.bind_eq_some_iff.mp H
            obtain ⟨t191, A630, H⟩ := H
            replace H : (spec_GateAsk.j0 k false a3 a5 (!t191) a0_0 a0_1 a2_0 a2_1 a4_0 a4_1 l4_2) = some (r1, r2, r3) := H
            have A63 := Aside0.mk A630
            clear A630
            have H' := Aside0.mk H
            clear H
            have hnb64 := NB181_180.out
            have hnc64 := NB180_181.out
            have hnb65 := NB181_182.out
            have hnc65 := NB182_181.out
            have hcz66_0 := bc_ BK181.out 0 (.int .i64 a2_0) rfl
            have hcz66_1 := bc_ BK181.out 1 (.int .i64 a2_1) rfl
            have hfz66_0 := blk_frozen BK181.out 0
            have hfz66_1 := blk_frozen BK181.out 1
            go_wp2_with (first | (go_at_call 37; (with_reducible refine (spec_DriftOk.calls a2_0 a2_1 true _ A57.out).mono ?_); rintro e w67 ⟨rfl, hb⟩; have n0_ := am_ (bb_ BK180.out hb); have n1_ := am_ (bb_ BK181.out hb); have n2_ := am_ (bb_ BK182.out hb); have n3_ := am_ (below_step (hb3_ HB.out GE180.out GE181.out GE182.out) hb); clear BK180; clear BK181; clear BK182; clear HB; have BK180 := n0_; have BK181 := n1_; have BK182 := n2_; have HB := n3_; clear n0_ n1_ n2_ n3_; (try clear hb); (try clear hb2); (try clear hk); (try clear hi)) | (go_at_call 38; (with_reducible refine (spec_l1In.calls a3 1 1000000000000 true _ A59.out).mono ?_); rintro e w' ⟨rfl, ⟨nd, rfl⟩⟩; have hnb68 := NB182_180.out; have hnc68 := NB180_182.out; have hcz69_0 := bc_ BK182.out 0 (.int .i64 a4_0) rfl; have hcz69_1 := bc_ BK182.out 1 (.int .i64 a4_1) rfl; have hcz69_2 := bc_ BK182.out 2 (.slice A4_2 l4_2.length c4_2) rfl; have hfz69_0 := blk_frozen BK182.out 0; have hfz69_1 := blk_frozen BK182.out 1; have hfz69_2 := blk_frozen BK182.out 2) | (go_at_call 39; (with_reducible refine (spec_PlanOk.calls k a4_0 a4_1 _ _ l4_2 true _ ?side1 ?side2 A61.out).mono ?_); (case side1 => repeat (first | exact (Kd.C_below HR4_2.out (hb3_ HB.out GE180.out GE181.out GE182.out)) | (with_reducible refine Kd.C_alloc ?_ _) | (with_reducible refine Kd.C_drewN ?_ _) | (with_reducible refine Kd.C_drew ?_))); (case side2 => exact HC4_2.out); rintro e w70 ⟨rfl, hb⟩; have n0_ := am_ (bb_ BK180.out hb); have n1_ := am_ (bb_ BK181.out hb); have n2_ := am_ (bb_ BK182.out hb); have n3_ := am_ (below_step (hb3_ HB.out GE180.out GE181.out GE182.out) hb); clear BK180; clear BK181; clear BK182; clear HB; have BK180 := n0_; have BK181 := n1_; have BK182 := n2_; have HB := n3_; clear n0_ n1_ n2_ n3_; (try clear hb); (try clear hb2); (try clear hk); (try clear hi)) | (go_at_call 40; (with_reducible refine (spec_l4Node.calls a5 t191 _ A63.out).mono ?_); rintro e w' ⟨rfl, ⟨nd, rfl⟩⟩))
            go_meet
            case rel => exact ⟨_, (!t191), (by first | rfl | (simp; done) | (simp [*]; done)), H', ⟨by first | omega | exact Nat.le_refl _⟩, ⟨bk_ BK180.out⟩, ⟨bk_ BK181.out⟩, ⟨bk_ BK182.out⟩, ⟨hb3_ HB.out GE180.out GE181.out GE182.out⟩⟩
          · replace c62 := Bool.eq_false_iff.mpr c62
            subst c62
            have H1 : (spec_GateAsk.j0 k false a3 a5 true a0_0 a0_1 a2_0 a2_1 a4_0 a4_1 l4_2) = some (r1, r2, r3) := by rw [if_neg (show ¬ (false = true) by decide)] at H; exact H
            clear H
            have H := H1
            clear H1
            have H' := Aside0.mk H
            clear H
            have hnb71 := NB181_180.out
            have hnc71 := NB180_181.out
            have hnb72 := NB181_182.out
            have hnc72 := NB182_181.out
            have hcz73_0 := bc_ BK181.out 0 (.int .i64 a2_0) rfl
            have hcz73_1 := bc_ BK181.out 1 (.int .i64 a2_1) rfl
            have hfz73_0 := blk_frozen BK181.out 0
            have hfz73_1 := blk_frozen BK181.out 1
            go_wp2_with (first | (go_at_call 37; (with_reducible refine (spec_DriftOk.calls a2_0 a2_1 true _ A57.out).mono ?_); rintro e w74 ⟨rfl, hb⟩; have n0_ := am_ (bb_ BK180.out hb); have n1_ := am_ (bb_ BK181.out hb); have n2_ := am_ (bb_ BK182.out hb); have n3_ := am_ (below_step (hb3_ HB.out GE180.out GE181.out GE182.out) hb); clear BK180; clear BK181; clear BK182; clear HB; have BK180 := n0_; have BK181 := n1_; have BK182 := n2_; have HB := n3_; clear n0_ n1_ n2_ n3_; (try clear hb); (try clear hb2); (try clear hk); (try clear hi)) | (go_at_call 38; (with_reducible refine (spec_l1In.calls a3 1 1000000000000 true _ A59.out).mono ?_); rintro e w' ⟨rfl, ⟨nd, rfl⟩⟩; have hnb75 := NB182_180.out; have hnc75 := NB180_182.out; have hcz76_0 := bc_ BK182.out 0 (.int .i64 a4_0) rfl; have hcz76_1 := bc_ BK182.out 1 (.int .i64 a4_1) rfl; have hcz76_2 := bc_ BK182.out 2 (.slice A4_2 l4_2.length c4_2) rfl; have hfz76_0 := blk_frozen BK182.out 0; have hfz76_1 := blk_frozen BK182.out 1; have hfz76_2 := blk_frozen BK182.out 2) | (go_at_call 39; (with_reducible refine (spec_PlanOk.calls k a4_0 a4_1 _ _ l4_2 false _ ?side1 ?side2 A61.out).mono ?_); (case side1 => repeat (first | exact (Kd.C_below HR4_2.out (hb3_ HB.out GE180.out GE181.out GE182.out)) | (with_reducible refine Kd.C_alloc ?_ _) | (with_reducible refine Kd.C_drewN ?_ _) | (with_reducible refine Kd.C_drew ?_))); (case side2 => exact HC4_2.out); rintro e w77 ⟨rfl, hb⟩; have n0_ := am_ (bb_ BK180.out hb); have n1_ := am_ (bb_ BK181.out hb); have n2_ := am_ (bb_ BK182.out hb); have n3_ := am_ (below_step (hb3_ HB.out GE180.out GE181.out GE182.out) hb); clear BK180; clear BK181; clear BK182; clear HB; have BK180 := n0_; have BK181 := n1_; have BK182 := n2_; have HB := n3_; clear n0_ n1_ n2_ n3_; (try clear hb); (try clear hb2); (try clear hk); (try clear hi)))
            go_meet
            case rel => exact ⟨_, (true), (by first | rfl | (simp; done) | (simp [*]; done)), H', ⟨by first | omega | exact Nat.le_refl _⟩, ⟨bk_ BK180.out⟩, ⟨bk_ BK181.out⟩, ⟨bk_ BK182.out⟩, ⟨hb3_ HB.out GE180.out GE181.out GE182.out⟩⟩
        · replace c60 := Bool.eq_false_iff.mpr c60
          subst c60
          have H1 : (spec_GateAsk.j0 k false a3 a5 true a0_0 a0_1 a2_0 a2_1 a4_0 a4_1 l4_2) = some (r1, r2, r3) := by rw [if_neg (show ¬ (false = true) by decide)] at H; exact H
          clear H
          have H := H1
          clear H1
          have H' := Aside0.mk H
          clear H
          have hnb78 := NB181_180.out
          have hnc78 := NB180_181.out
          have hnb79 := NB181_182.out
          have hnc79 := NB182_181.out
          have hcz80_0 := bc_ BK181.out 0 (.int .i64 a2_0) rfl
          have hcz80_1 := bc_ BK181.out 1 (.int .i64 a2_1) rfl
          have hfz80_0 := blk_frozen BK181.out 0
          have hfz80_1 := blk_frozen BK181.out 1
          go_wp2_with (first | (go_at_call 37; (with_reducible refine (spec_DriftOk.calls a2_0 a2_1 true _ A57.out).mono ?_); rintro e w81 ⟨rfl, hb⟩; have n0_ := am_ (bb_ BK180.out hb); have n1_ := am_ (bb_ BK181.out hb); have n2_ := am_ (bb_ BK182.out hb); have n3_ := am_ (below_step (hb3_ HB.out GE180.out GE181.out GE182.out) hb); clear BK180; clear BK181; clear BK182; clear HB; have BK180 := n0_; have BK181 := n1_; have BK182 := n2_; have HB := n3_; clear n0_ n1_ n2_ n3_; (try clear hb); (try clear hb2); (try clear hk); (try clear hi)) | (go_at_call 38; (with_reducible refine (spec_l1In.calls a3 1 1000000000000 false _ A59.out).mono ?_); rintro e w' ⟨rfl, ⟨nd, rfl⟩⟩))
          go_meet
          case rel => exact ⟨_, (true), (by first | rfl | (simp; done) | (simp [*]; done)), H', ⟨by first | omega | exact Nat.le_refl _⟩, ⟨bk_ BK180.out⟩, ⟨bk_ BK181.out⟩, ⟨bk_ BK182.out⟩, ⟨hb3_ HB.out GE180.out GE181.out GE182.out⟩⟩
      · replace c58 := Bool.eq_false_iff.mpr c58
        subst c58
        have H1 : (spec_GateAsk.j0 k false a3 a5 true a0_0 a0_1 a2_0 a2_1 a4_0 a4_1 l4_2) = some (r1, r2, r3) := by rw [if_neg (show ¬ (false = true) by decide)] at H; exact H
        clear H
        have H := H1
        clear H1
        have H' := Aside0.mk H
        clear H
        have hnb82 := NB181_180.out
        have hnc82 := NB180_181.out
        have hnb83 := NB181_182.out
        have hnc83 := NB182_181.out
        have hcz84_0 := bc_ BK181.out 0 (.int .i64 a2_0) rfl
        have hcz84_1 := bc_ BK181.out 1 (.int .i64 a2_1) rfl
        have hfz84_0 := blk_frozen BK181.out 0
        have hfz84_1 := blk_frozen BK181.out 1
        go_wp2_with (first | (go_at_call 37; (with_reducible refine (spec_DriftOk.calls a2_0 a2_1 false _ A57.out).mono ?_); rintro e w85 ⟨rfl, hb⟩; have n0_ := am_ (bb_ BK180.out hb); have n1_ := am_ (bb_ BK181.out hb); have n2_ := am_ (bb_ BK182.out hb); have n3_ := am_ (below_step (hb3_ HB.out GE180.out GE181.out GE182.out) hb); clear BK180; clear BK181; clear BK182; clear HB; have BK180 := n0_; have BK181 := n1_; have BK182 := n2_; have HB := n3_; clear n0_ n1_ n2_ n3_; (try clear hb); (try clear hb2); (try clear hk); (try clear hi)))
        go_meet
        case rel => exact ⟨_, (true), (by first | rfl | (simp; done) | (simp [*]; done)), H', ⟨by first | omega | exact Nat.le_refl _⟩, ⟨bk_ BK180.out⟩, ⟨bk_ BK181.out⟩, ⟨bk_ BK182.out⟩, ⟨hb3_ HB.out GE180.out GE181.out GE182.out⟩⟩
  case rest =>
    clear HC7
    try clear c1
    try clear c2
    try clear p2
    try clear c3
    try clear c4
    try clear c5
    try clear c6
    try clear c7
    try clear c8
    try clear c10
    try clear c11
    try clear c13
    try clear c15
    try clear c17
    try clear c19
    try clear c21
    try clear c22
    try clear c25
    try clear c30
    try clear c31
    try clear c34
    try clear c39
    try clear c40
    try clear c43
    try clear c46
    try clear c47
    try clear c50
    try clear c53
    try clear c54
    try clear c58
    try clear c60
    try clear c62
    try clear c64
    try clear c65
    try clear c68
    try clear c71
    try clear c72
    try clear c75
    try clear c78
    try clear c79
    try clear c82
    try clear c83
    try clear hcz23_0
    try clear hcz23_1
    try clear hcz26_0
    try clear hcz26_1
    try clear hcz28_0
    try clear hcz28_1
    try clear hcz28_2
    try clear hcz32_0
    try clear hcz32_1
    try clear hcz35_0
    try clear hcz35_1
    try clear hcz37_0
    try clear hcz37_1
    try clear hcz37_2
    try clear hcz41_0
    try clear hcz41_1
    try clear hcz44_0
    try clear hcz44_1
    try clear hcz48_0
    try clear hcz48_1
    try clear hcz51_0
    try clear hcz51_1
    try clear hcz55_0
    try clear hcz55_1
    try clear hcz66_0
    try clear hcz66_1
    try clear hcz69_0
    try clear hcz69_1
    try clear hcz69_2
    try clear hcz73_0
    try clear hcz73_1
    try clear hcz76_0
    try clear hcz76_1
    try clear hcz76_2
    try clear hcz80_0
    try clear hcz80_1
    try clear hcz84_0
    try clear hcz84_1
    try clear hfz23_0
    try clear hfz23_1
    try clear hfz26_0
    try clear hfz26_1
    try clear hfz28_0
    try clear hfz28_1
    try clear hfz28_2
    try clear hfz32_0
    try clear hfz32_1
    try clear hfz35_0
    try clear hfz35_1
    try clear hfz37_0
    try clear hfz37_1
    try clear hfz37_2
    try clear hfz41_0
    try clear hfz41_1
    try clear hfz44_0
    try clear hfz44_1
    try clear hfz48_0
    try clear hfz48_1
    try clear hfz51_0
    try clear hfz51_1
    try clear hfz55_0
    try clear hfz55_1
    try clear hfz66_0
    try clear hfz66_1
    try clear hfz69_0
    try clear hfz69_1
    try clear hfz69_2
    try clear hfz73_0
    try clear hfz73_1
    try clear hfz76_0
    try clear hfz76_1
    try clear hfz76_2
    try clear hfz80_0
    try clear hfz80_1
    try clear hfz84_0
    try clear hfz84_1
    obtain ⟨kq, x45_6, rfl, HA, HJ6, BK180, BK181, BK182, HB⟩ := hcut
    cases kq with
    | zero => exact absurd HA.out (by simp [spec_GateAsk.j0])
    | succ kj6 =>
      have H := HA.out
      clear HA
      simp only [spec_GateAsk.j0] at H
      by_cases c86 : x45_6 = true
      · subst c86
        have H1 : (some (0, 0, 1)) = some (r1, r2, r3) := by rw [if_pos rfl] at H; exact H
        clear H
        have H := H1
        clear H1
        simp only [Option.some.injEq, Prod.mk.injEq] at H
        obtain ⟨rfl, rfl, rfl⟩ := H
        go_wp2
        go_ret3
        exact ⟨er_, hb3_ HB.out GE180.out GE181.out GE182.out⟩
      · replace c86 := Bool.eq_false_iff.mpr c86
        subst c86
        have H1 : ((spec_GateSpan.f kj6 a0_0 a0_1 a2_0 a2_1 a3).bind fun bt192 => (if a1 = true then (spec_GateAsk.j1 kj6 a5 (!bt192.2.2) a4_0 a4_1 l4_2 bt192.1 bt192.2.1) else (spec_GateAsk.j1 kj6 a5 true a4_0 a4_1 l4_2 bt192.1 bt192.2.1))) = some (r1, r2, r3) := by rw [if_neg (show ¬ (false = true) by decide)] at H; exact H
        clear H
        have H := H1
        clear H1
        replace H := Option.bind_eq_some_iff.mp H
        obtain ⟨⟨t192, t193, t194⟩, A870, H⟩ := H
        replace H : (if a1 = true then (spec_GateAsk.j1 kj6 a5 (!t194) a4_0 a4_1 l4_2 t192 t193) else (spec_GateAsk.j1 kj6 a5 true a4_0 a4_1 l4_2 t192 t193)) = some (r1, r2, r3) := H
        have A87 := Aside0.mk A870
        clear A870
        have HC88 := Aside0.mk H
        clear H
        have hnb89 := NB180_181.out
        have hnc89 := NB181_180.out
        have hnb90 := NB180_182.out
        have hnc90 := NB182_180.out
        have hcz91_0 := bc_ BK180.out 0 (.int .i64 a0_0) rfl
        have hcz91_1 := bc_ BK180.out 1 (.int .i64 a0_1) rfl
        have hfz91_0 := blk_frozen BK180.out 0
        have hfz91_1 := blk_frozen BK180.out 1
        have hnb92 := NB181_182.out
        have hnc92 := NB182_181.out
        have hcz93_0 := bc_ BK181.out 0 (.int .i64 a2_0) rfl
        have hcz93_1 := bc_ BK181.out 1 (.int .i64 a2_1) rfl
        have hfz93_0 := blk_frozen BK181.out 0
        have hfz93_1 := blk_frozen BK181.out 1
        go_upto_region 4 with (first | ((with_reducible refine gate_callee (f := 25) rfl ?_); refine goesL_ (some 50) rfl rfl Try.func25 (by kernel_rfl) rfl #[.agg #[.int .i64 a0_0, .int .i64 a0_1], .agg #[.int .i64 a2_0, .int .i64 a2_1], .int .i64 a3] rfl arr_ ?_; (with_reducible refine (spec_GateSpan.calls kj6 a0_0 a0_1 a2_0 a2_1 a3 t192 t193 t194 _ A87.out).mono ?_); rintro e w94 ⟨rfl, hb⟩; refine ⟨_, rfl, ?_⟩; have n0_ := am_ (bb_ BK180.out hb); have n1_ := am_ (bb_ BK181.out hb); have n2_ := am_ (bb_ BK182.out hb); have n3_ := am_ (below_step (hb3_ HB.out GE180.out GE181.out GE182.out) hb); clear BK180; clear BK181; clear BK182; clear HB; have BK180 := n0_; have BK181 := n1_; have BK182 := n2_; have HB := n3_; clear n0_ n1_ n2_ n3_; (try clear hb); (try clear hb2); (try clear hk); (try clear hi)) | ((with_reducible refine gate_dst (N := 15) rfl ?_); refine box_event ?hg (N := 15) ?hd (cs := #[.int .i64 0, .int .i64 0]) (t := 32) ?hr ?_; (case hd => rfl); (case hg => rfl); (case hr => first|(go_simp;done)|(go_simp;rfl)); intro gb195 hg w95 hbox hb; have n0_ := am_ (bb_ BK180.out hb); have n1_ := am_ (bb_ BK181.out hb); have n2_ := am_ (bb_ BK182.out hb); have n3_ := am_ (below_step (hb3_ HB.out GE180.out GE181.out GE182.out) hb); have n4_ := am_ (hbox); have n5_ := am_ (hy_ hg (hb3_ HB.out GE180.out GE181.out GE182.out) : w.heap.size ≤ gb195); have n6_ := am_ (hy_ hg (hb3_ HB.out GE180.out GE181.out GE182.out) : w.heap.size ≤ gb195); have n7_ := am_ ((bl_ hg BK180.out : gb180 ≠ gb195)); have n8_ := am_ ((bg_ hg BK180.out : gb195 ≠ gb180)); have n9_ := am_ ((bl_ hg BK181.out : gb181 ≠ gb195)); have n10_ := am_ ((bg_ hg BK181.out : gb195 ≠ gb181)); have n11_ := am_ ((bl_ hg BK182.out : gb182 ≠ gb195)); have n12_ := am_ ((bg_ hg BK182.out : gb195 ≠ gb182)); clear BK180; clear BK181; clear BK182; clear HB; have BK180 := n0_; have BK181 := n1_; have BK182 := n2_; have HB := n3_; have BK195 := n4_; have GW195 := n5_; have GE195 := n6_; have NB180_195 := n7_; have NB195_180 := n8_; have NB181_195 := n9_; have NB195_181 := n10_; have NB182_195 := n11_; have NB195_182 := n12_; clear n0_ n1_ n2_ n3_ n4_ n5_ n6_ n7_ n8_ n9_ n10_ n11_ n12_; clear hb hbox hg; have hnb96 := NB195_180.out; have hnc96 := NB180_195.out; have hnb97 := NB195_181.out; have hnc97 := NB181_195.out; have hnb98 := NB195_182.out; have hnc98 := NB182_195.out; have hcz99_0 := bc_ BK195.out 0 (.int .i64 0) rfl; have hcz99_1 := bc_ BK195.out 1 (.int .i64 0) rfl; have hfz99_0 := blk_frozen BK195.out 0; have hfz99_1 := blk_frozen BK195.out 1))
        (try simp only [Act.put, List.setIfInBounds_toArray, List.set_cons_zero, List.set_cons_succ])
        go_cut [58] (fun v58 wc => ∃ (kq : Nat) (x58_87 : Bool), v58 = .bool x58_87 ∧ Aside0 (spec_GateAsk.j1 kq a5 x58_87 a4_0 a4_1 l4_2 t192 t193 = some (r1, r2, r3)) ∧ Aside0 (kq ≤ kj6) ∧ Aside0 (wc.heap[gb180]? = some (.cells #[.int .i64 a0_0, .int .i64 a0_1] 32 (0, 0))) ∧ Aside0 (wc.heap[gb181]? = some (.cells #[.int .i64 a2_0, .int .i64 a2_1] 34 (0, 0))) ∧ Aside0 (wc.heap[gb182]? = some (.cells #[.int .i64 a4_0, .int .i64 a4_1, (.slice A4_2 l4_2.length c4_2)] 38 (0, 0))) ∧ Aside0 (wc.heap[gb195]? = some (.cells #[.int .i64 t192, .int .i64 t193] 32 (0, 0))) ∧ Aside0 (Below w.heap.size w wc))
        case first =>
          have H := HC88.out
          clear HC88
          by_cases c100 : a1 = true
          · subst c100
            have H1 : (spec_GateAsk.j1 kj6 a5 (!t194) a4_0 a4_1 l4_2 t192 t193) = some (r1, r2, r3) := by rw [if_pos rfl] at H; exact H
            clear H
            have H := H1
            clear H1
            have H' := Aside0.mk H
            clear H
            go_wp2
            go_meet
            case rel => exact ⟨_, (!t194), (by first | rfl | (simp; done) | (simp [*]; done)), H', ⟨by have := HJ6.out; first | omega | exact Nat.le_refl _⟩, ⟨by (with_reducible repeat (first | refine blk_drewN ?_ _ | refine blk_drew ?_ | refine blk_alloc ?_ _)); refine blk_far ?_ NB180_195.out _; (with_reducible repeat (first | refine blk_drewN ?_ _ | refine blk_drew ?_ | refine blk_alloc ?_ _)); refine blk_far ?_ NB180_195.out _; (with_reducible repeat (first | refine blk_drewN ?_ _ | refine blk_drew ?_ | refine blk_alloc ?_ _)); exact BK180.out⟩, ⟨by (with_reducible repeat (first | refine blk_drewN ?_ _ | refine blk_drew ?_ | refine blk_alloc ?_ _)); refine blk_far ?_ NB181_195.out _; (with_reducible repeat (first | refine blk_drewN ?_ _ | refine blk_drew ?_ | refine blk_alloc ?_ _)); refine blk_far ?_ NB181_195.out _; (with_reducible repeat (first | refine blk_drewN ?_ _ | refine blk_drew ?_ | refine blk_alloc ?_ _)); exact BK181.out⟩, ⟨by (with_reducible repeat (first | refine blk_drewN ?_ _ | refine blk_drew ?_ | refine blk_alloc ?_ _)); refine blk_far ?_ NB182_195.out _; (with_reducible repeat (first | refine blk_drewN ?_ _ | refine blk_drew ?_ | refine blk_alloc ?_ _)); refine blk_far ?_ NB182_195.out _; (with_reducible repeat (first | refine blk_drewN ?_ _ | refine blk_drew ?_ | refine blk_alloc ?_ _)); exact BK182.out⟩, ⟨by (with_reducible repeat (first | refine blk_drewN ?_ _ | refine blk_drew ?_ | refine blk_alloc ?_ _)); refine blk_put (cs := #[.int .i64 t192, .int .i64 0]) ?_ 1 _ rfl; (with_reducible repeat (first | refine blk_drewN ?_ _ | refine blk_drew ?_ | refine blk_alloc ?_ _)); refine blk_put (cs := #[.int .i64 0, .int .i64 0]) ?_ 0 _ rfl; (with_reducible repeat (first | refine blk_drewN ?_ _ | refine blk_drew ?_ | refine blk_alloc ?_ _)); exact BK195.out⟩, ⟨hb4_ HB.out GE180.out GE181.out GE182.out GE195.out⟩⟩
          · replace c100 := Bool.eq_false_iff.mpr c100
            subst c100
            have H1 : (spec_GateAsk.j1 kj6 a5 true a4_0 a4_1 l4_2 t192 t193) = some (r1, r2, r3) := by rw [if_neg (show ¬ (false = true) by decide)] at H; exact H
            clear H
            have H := H1
            clear H1
            have H' := Aside0.mk H
            clear H
            go_wp2
            go_meet
            case rel => exact ⟨_, (true), (by first | rfl | (simp; done) | (simp [*]; done)), H', ⟨by have := HJ6.out; first | omega | exact Nat.le_refl _⟩, ⟨by (with_reducible repeat (first | refine blk_drewN ?_ _ | refine blk_drew ?_ | refine blk_alloc ?_ _)); refine blk_far ?_ NB180_195.out _; (with_reducible repeat (first | refine blk_drewN ?_ _ | refine blk_drew ?_ | refine blk_alloc ?_ _)); refine blk_far ?_ NB180_195.out _; (with_reducible repeat (first | refine blk_drewN ?_ _ | refine blk_drew ?_ | refine blk_alloc ?_ _)); exact BK180.out⟩, ⟨by (with_reducible repeat (first | refine blk_drewN ?_ _ | refine blk_drew ?_ | refine blk_alloc ?_ _)); refine blk_far ?_ NB181_195.out _; (with_reducible repeat (first | refine blk_drewN ?_ _ | refine blk_drew ?_ | refine blk_alloc ?_ _)); refine blk_far ?_ NB181_195.out _; (with_reducible repeat (first | refine blk_drewN ?_ _ | refine blk_drew ?_ | refine blk_alloc ?_ _)); exact BK181.out⟩, ⟨by (with_reducible repeat (first | refine blk_drewN ?_ _ | refine blk_drew ?_ | refine blk_alloc ?_ _)); refine blk_far ?_ NB182_195.out _; (with_reducible repeat (first | refine blk_drewN ?_ _ | refine blk_drew ?_ | refine blk_alloc ?_ _)); refine blk_far ?_ NB182_195.out _; (with_reducible repeat (first | refine blk_drewN ?_ _ | refine blk_drew ?_ | refine blk_alloc ?_ _)); exact BK182.out⟩, ⟨by (with_reducible repeat (first | refine blk_drewN ?_ _ | refine blk_drew ?_ | refine blk_alloc ?_ _)); refine blk_put (cs := #[.int .i64 t192, .int .i64 0]) ?_ 1 _ rfl; (with_reducible repeat (first | refine blk_drewN ?_ _ | refine blk_drew ?_ | refine blk_alloc ?_ _)); refine blk_put (cs := #[.int .i64 0, .int .i64 0]) ?_ 0 _ rfl; (with_reducible repeat (first | refine blk_drewN ?_ _ | refine blk_drew ?_ | refine blk_alloc ?_ _)); exact BK195.out⟩, ⟨hb4_ HB.out GE180.out GE181.out GE182.out GE195.out⟩⟩
        case rest =>
          clear HC88
          try clear c1
          try clear c2
          try clear p2
          try clear c3
          try clear c4
          try clear c5
          try clear c6
          try clear c7
          try clear c8
          try clear c9
          try clear c10
          try clear c11
          try clear c13
          try clear c15
          try clear c17
          try clear c19
          try clear c21
          try clear c22
          try clear c25
          try clear c30
          try clear c31
          try clear c34
          try clear c39
          try clear c40
          try clear c43
          try clear c46
          try clear c47
          try clear c50
          try clear c53
          try clear c54
          try clear c58
          try clear c60
          try clear c62
          try clear c64
          try clear c65
          try clear c68
          try clear c71
          try clear c72
          try clear c75
          try clear c78
          try clear c79
          try clear c82
          try clear c83
          try clear c86
          try clear c89
          try clear c90
          try clear c92
          try clear c96
          try clear c97
          try clear c98
          try clear c100
          try clear hcz23_0
          try clear hcz23_1
          try clear hcz26_0
          try clear hcz26_1
          try clear hcz28_0
          try clear hcz28_1
          try clear hcz28_2
          try clear hcz32_0
          try clear hcz32_1
          try clear hcz35_0
          try clear hcz35_1
          try clear hcz37_0
          try clear hcz37_1
          try clear hcz37_2
          try clear hcz41_0
          try clear hcz41_1
          try clear hcz44_0
          try clear hcz44_1
          try clear hcz48_0
          try clear hcz48_1
          try clear hcz51_0
          try clear hcz51_1
          try clear hcz55_0
          try clear hcz55_1
          try clear hcz66_0
          try clear hcz66_1
          try clear hcz69_0
          try clear hcz69_1
          try clear hcz69_2
          try clear hcz73_0
          try clear hcz73_1
          try clear hcz76_0
          try clear hcz76_1
          try clear hcz76_2
          try clear hcz80_0
          try clear hcz80_1
          try clear hcz84_0
          try clear hcz84_1
          try clear hcz91_0
          try clear hcz91_1
          try clear hcz93_0
          try clear hcz93_1
          try clear hcz99_0
          try clear hcz99_1
          try clear hfz23_0
          try clear hfz23_1
          try clear hfz26_0
          try clear hfz26_1
          try clear hfz28_0
          try clear hfz28_1
          try clear hfz28_2
          try clear hfz32_0
          try clear hfz32_1
          try clear hfz35_0
          try clear hfz35_1
          try clear hfz37_0
          try clear hfz37_1
          try clear hfz37_2
          try clear hfz41_0
          try clear hfz41_1
          try clear hfz44_0
          try clear hfz44_1
          try clear hfz48_0
          try clear hfz48_1
          try clear hfz51_0
          try clear hfz51_1
          try clear hfz55_0
          try clear hfz55_1
          try clear hfz66_0
          try clear hfz66_1
          try clear hfz69_0
          try clear hfz69_1
          try clear hfz69_2
          try clear hfz73_0
          try clear hfz73_1
          try clear hfz76_0
          try clear hfz76_1
          try clear hfz76_2
          try clear hfz80_0
          try clear hfz80_1
          try clear hfz84_0
          try clear hfz84_1
          try clear hfz91_0
          try clear hfz91_1
          try clear hfz93_0
          try clear hfz93_1
          try clear hfz99_0
          try clear hfz99_1
          try clear p2
          obtain ⟨kq, x58_87, rfl, HA, HJ87, BK180, BK181, BK182, BK195, HB⟩ := hcut
          cases kq with
          | zero => exact absurd HA.out (by simp [spec_GateAsk.j1])
          | succ kj87 =>
            have H := HA.out
            clear HA
            simp only [spec_GateAsk.j1] at H
            by_cases c101 : x58_87 = true
            · subst c101
              have H1 : (some (0, 0, 2)) = some (r1, r2, r3) := by rw [if_pos rfl] at H; exact H
              clear H
              have H := H1
              clear H1
              simp only [Option.some.injEq, Prod.mk.injEq] at H
              obtain ⟨rfl, rfl, rfl⟩ := H
              go_wp2
              go_ret3
              exact ⟨er_, hb4_ HB.out GE180.out GE181.out GE182.out GE195.out⟩
            · replace c101 := Bool.eq_false_iff.mpr c101
              subst c101
              have H1 : ((spec_InSlot.f kj87 a4_0 a4_1 l4_2 a5 t192 t193).bind fun bt196 => (if bt196.2.2 = true then (some (bt196.1, bt196.2.1, 0)) else (some (0, 0, 2)))) = some (r1, r2, r3) := by rw [if_neg (show ¬ (false = true) by decide)] at H; exact H
              clear H
              have H := H1
              clear H1
              replace H := Option.bind_eq_some_iff.mp H
              obtain ⟨⟨t196, t197, t198⟩, A1020, H⟩ := H
              replace H : (if t198 = true then (some (t196, t197, 0)) else (some (0, 0, 2))) = some (r1, r2, r3) := H
              have A102 := Aside0.mk A1020
              clear A1020
              by_cases c103 : t198 = true
              · subst c103
                have H1 : (some (t196, t197, 0)) = some (r1, r2, r3) := by rw [if_pos rfl] at H; exact H
                clear H
                have H := H1
                clear H1
                simp only [Option.some.injEq, Prod.mk.injEq] at H
                obtain ⟨rfl, rfl, rfl⟩ := H
                have hnb104 := NB182_180.out
                have hnc104 := NB180_182.out
                have hnb105 := NB182_181.out
                have hnc105 := NB181_182.out
                have hnb106 := NB182_195.out
                have hnc106 := NB195_182.out
                have hcz107_0 := bc_ BK182.out 0 (.int .i64 a4_0) rfl
                have hcz107_1 := bc_ BK182.out 1 (.int .i64 a4_1) rfl
                have hcz107_2 := bc_ BK182.out 2 (.slice A4_2 l4_2.length c4_2) rfl
                have hfz107_0 := blk_frozen BK182.out 0
                have hfz107_1 := blk_frozen BK182.out 1
                have hfz107_2 := blk_frozen BK182.out 2
                have hnb108 := NB195_180.out
                have hnc108 := NB180_195.out
                have hnb109 := NB195_181.out
                have hnc109 := NB181_195.out
                have hcz110_0 := bc_ BK195.out 0 (.int .i64 t192) rfl
                have hcz110_1 := bc_ BK195.out 1 (.int .i64 t193) rfl
                have hfz110_0 := blk_frozen BK195.out 0
                have hfz110_1 := blk_frozen BK195.out 1
                go_wp2_with (first | ((with_reducible refine gate_callee (f := 41) rfl ?_); refine goesL_ (some 66) rfl rfl Try.func41 (by kernel_rfl) rfl #[.agg #[.int .i64 a4_0, .int .i64 a4_1, .slice A4_2 l4_2.length c4_2], .int .i64 a5, .int .i64 t192, .int .i64 t193] rfl arr_ ?_; (with_reducible refine (spec_InSlot.calls kj87 a4_0 a4_1 _ _ l4_2 a5 t192 t193 t196 t197 true _ ?side1 ?side2 A102.out).mono ?_); (case side1 => exact kc_ (Kd.C_below HR4_2.out HB.out)); (case side2 => exact HC4_2.out); rintro e w111 ⟨rfl, hb⟩; refine ⟨_, rfl, ?_⟩; have n0_ := am_ (bb_ BK180.out hb); have n1_ := am_ (bb_ BK181.out hb); have n2_ := am_ (bb_ BK182.out hb); have n3_ := am_ (bb_ BK195.out hb); have n4_ := am_ (below_step (hb4_ HB.out GE180.out GE181.out GE182.out GE195.out) hb); clear BK180; clear BK181; clear BK182; clear BK195; clear HB; have BK180 := n0_; have BK181 := n1_; have BK182 := n2_; have BK195 := n3_; have HB := n4_; clear n0_ n1_ n2_ n3_ n4_; (try clear hb); (try clear hb2); (try clear hk); (try clear hi)))
                go_ret3
                exact ⟨er_, hb4_ HB.out GE180.out GE181.out GE182.out GE195.out⟩
              · replace c103 := Bool.eq_false_iff.mpr c103
                subst c103
                have H1 : (some (0, 0, 2)) = some (r1, r2, r3) := by rw [if_neg (show ¬ (false = true) by decide)] at H; exact H
                clear H
                have H := H1
                clear H1
                simp only [Option.some.injEq, Prod.mk.injEq] at H
                obtain ⟨rfl, rfl, rfl⟩ := H
                have hnb112 := NB182_180.out
                have hnc112 := NB180_182.out
                have hnb113 := NB182_181.out
                have hnc113 := NB181_182.out
                have hnb114 := NB182_195.out
                have hnc114 := NB195_182.out
                have hcz115_0 := bc_ BK182.out 0 (.int .i64 a4_0) rfl
                have hcz115_1 := bc_ BK182.out 1 (.int .i64 a4_1) rfl
                have hcz115_2 := bc_ BK182.out 2 (.slice A4_2 l4_2.length c4_2) rfl
                have hfz115_0 := blk_frozen BK182.out 0
                have hfz115_1 := blk_frozen BK182.out 1
                have hfz115_2 := blk_frozen BK182.out 2
                have hnb116 := NB195_180.out
                have hnc116 := NB180_195.out
                have hnb117 := NB195_181.out
                have hnc117 := NB181_195.out
                have hcz118_0 := bc_ BK195.out 0 (.int .i64 t192) rfl
                have hcz118_1 := bc_ BK195.out 1 (.int .i64 t193) rfl
                have hfz118_0 := blk_frozen BK195.out 0
                have hfz118_1 := blk_frozen BK195.out 1
                go_wp2_with (first | ((with_reducible refine gate_callee (f := 41) rfl ?_); refine goesL_ (some 66) rfl rfl Try.func41 (by kernel_rfl) rfl #[.agg #[.int .i64 a4_0, .int .i64 a4_1, .slice A4_2 l4_2.length c4_2], .int .i64 a5, .int .i64 t192, .int .i64 t193] rfl arr_ ?_; (with_reducible refine (spec_InSlot.calls kj87 a4_0 a4_1 _ _ l4_2 a5 t192 t193 t196 t197 false _ ?side1 ?side2 A102.out).mono ?_); (case side1 => exact kc_ (Kd.C_below HR4_2.out HB.out)); (case side2 => exact HC4_2.out); rintro e w119 ⟨rfl, hb⟩; refine ⟨_, rfl, ?_⟩; have n0_ := am_ (bb_ BK180.out hb); have n1_ := am_ (bb_ BK181.out hb); have n2_ := am_ (bb_ BK182.out hb); have n3_ := am_ (bb_ BK195.out hb); have n4_ := am_ (below_step (hb4_ HB.out GE180.out GE181.out GE182.out GE195.out) hb); clear BK180; clear BK181; clear BK182; clear BK195; clear HB; have BK180 := n0_; have BK181 := n1_; have BK182 := n2_; have BK195 := n3_; have HB := n4_; clear n0_ n1_ n2_ n3_ n4_; (try clear hb); (try clear hb2); (try clear hk); (try clear hi)))
                go_ret3
                exact ⟨er_, hb4_ HB.out GE180.out GE181.out GE182.out GE195.out⟩
end Go.Proofs.Ytejohmompmjhnaa.P

namespace Go.Proofs.Ytejohmompmjhnaa.P
open Go.RowKit Go.Proofs.YtejohmompmjhnaaW.PrintWords Go.Proofs.YtejohmompmjhnaaW.PrintLast Go.Proofs.YtejohmompmjhnaaW.PrintMore
attribute [local go_sem] max2_int min2_int max_two min_two max_three min_three max_four min_four
set_option linter.unusedVariables false
set_option linter.unusedSimpArgs false
theorem eqA32 (d : Nat) (w : World) (x0 y0 : Int) (x1 y1 : Int) :
    (Op.equalIn (d + 2) 32 (.agg #[.int .i64 x0, .int .i64 x1]) (.agg #[.int .i64 y0, .int .i64 y1])).run Try.prog w = .ok (x0 == y0 && (x1 == y1)) w := by
  refine eqA_of Try.underlying32 (by kernel_rfl) ?_
  refine eqf_cons (by rfl) (by go_simp; rfl) (by go_simp; rfl) (by go_simp) ?_
  exact eqf_last (by rfl) (by go_simp; rfl) (by go_simp; rfl) (by go_simp)
theorem eqA62 (d : Nat) (w : World) (x0 y0 : Bool) (x1 y1 : Int) (x2 y2 : Int) (x3 y3 : Int) :
    (Op.equalIn (d + 3) 62 (.agg #[.bool x0, .int .i64 x1, .int .i64 x2, .int .i64 x3]) (.agg #[.bool y0, .int .i64 y1, .int .i64 y2, .int .i64 y3])).run Try.prog w = .ok (x0 == y0 && ((x1 == y1 && (x2 == y2)) && (x3 == y3))) w := by
  refine eqA_of Try.underlying62 (by kernel_rfl) ?_
  refine eqf_cons (by rfl) (by go_simp; rfl) (by go_simp; rfl) (by go_simp) ?_
  refine eqf_cons (by rfl) (by go_simp) (by go_simp) (eqA32 (d + 0) w _ _ _ _) ?_
  exact eqf_last (by rfl) (by go_simp; rfl) (by go_simp; rfl) (by go_simp)
end Go.Proofs.Ytejohmompmjhnaa.P
namespace Go.Proofs.Ytejohmompmjhnaa.P
open Go.RowKit Go.Proofs.YtejohmompmjhnaaW.PrintWords Go.Proofs.YtejohmompmjhnaaW.PrintLast Go.Proofs.YtejohmompmjhnaaW.PrintMore
attribute [local go_sem] max2_int min2_int max_two min_two max_three min_three max_four min_four
set_option linter.unusedVariables false
set_option linter.unusedSimpArgs false
attribute [local go_sem high] eqA62
def spec_LocalOk.f (a0_0 : Bool) (a0_1 : Int) (a0_2 : Int) (a0_3 : Int) : Option (Bool) := if a0_0 = true then ((spec_IvalOk.f a0_1 a0_2).bind fun t728 => (if t728 = true then ((spec_l2Time.f a0_3).bind fun t729 => (some t729)) else (some false))) else (some (!a0_0 && ((a0_1 == 0 && (a0_2 == 0)) && (a0_3 == 0))))
set_option maxHeartbeats 8000000 in
set_option maxRecDepth 100000 in
theorem spec_LocalOk.calls (a0_0 : Bool) (a0_1 : Int) (a0_2 : Int) (a0_3 : Int) (r : Bool) (w : World) (h : spec_LocalOk.f a0_0 a0_1 a0_2 a0_3 = some r) :
    Calls Try.prog 81 #[.agg #[.bool a0_0, .int .i64 a0_1, .int .i64 a0_2, .int .i64 a0_3]] w fun e w' => e = .returned (.bool r) ∧ Below w.heap.size w w' := by
  have hu62 := Try.underlying62
  have hu32 := Try.underlying32
  have HB := am_ (Below.refl w.heap.size w)
  have H : (if a0_0 = true then ((spec_IvalOk.f a0_1 a0_2).bind fun t728 => (if t728 = true then ((spec_l2Time.f a0_3).bind fun t729 => (some t729)) else (some false))) else (some (!a0_0 && ((a0_1 == 0 && (a0_2 == 0)) && (a0_3 == 0))))) = some r := h
  clear h
  by_cases c2 : a0_0 = true
  · subst c2
    have H1 : ((spec_IvalOk.f a0_1 a0_2).bind fun t728 => (if t728 = true then ((spec_l2Time.f a0_3).bind fun t729 => (some t729)) else (some false))) = some r := by rw [if_pos rfl] at H; exact H
    clear H
    have H := H1
    clear H1
    replace H := Option.bind_eq_some_iff.mp H
    obtain ⟨t728, A30, H⟩ := H
    replace H : (if t728 = true then ((spec_l2Time.f a0_3).bind fun t729 => (some t729)) else (some false)) = some r := H
    have A3 := Aside0.mk A30
    clear A30
    by_cases c4 : t728 = true
    · subst c4
      have H1 : ((spec_l2Time.f a0_3).bind fun t729 => (some t729)) = some r := by rw [if_pos rfl] at H; exact H
      clear H
      have H := H1
      clear H1
      replace H := Option.bind_eq_some_iff.mp H
      obtain ⟨t729, A50, H⟩ := H
      replace H : (some t729) = some r := H
      have A5 := Aside0.mk A50
      clear A50
      obtain rfl := Option.some.inj H
      go_enter Try.func81, Try.ntmps81
      go_wp2_with (first | ((with_reducible refine gate_dst (N := 1) rfl ?_); refine box_event ?hg (N := 1) ?hd (cs := #[.bool true, .int .i64 a0_1, .int .i64 a0_2, .int .i64 a0_3]) (t := 62) ?hr ?_; (case hd => rfl); (case hg => rfl); (case hr => first|(go_simp;done)|(go_simp;rfl)); intro gb726 hg w6 hbox hb; have n0_ := am_ (below_step (hb_ HB.out) hb); have n1_ := am_ (hbox); have n2_ := am_ (hy_ hg (hb_ HB.out) : w.heap.size ≤ gb726); have n3_ := am_ (hy_ hg (hb_ HB.out) : w.heap.size ≤ gb726); clear HB; have HB := n0_; have BK726 := n1_; have GW726 := n2_; have GE726 := n3_; clear n0_ n1_ n2_ n3_; clear hb hbox hg) | ((with_reducible refine gate_dst (N := 3) rfl ?_); refine box_event ?hg (N := 3) ?hd (cs := #[.bool false, .int .i64 0, .int .i64 0, .int .i64 0]) (t := 62) ?hr ?_; (case hd => rfl); (case hg => rfl); (case hr => first|(go_simp;done)|(go_simp;rfl)); intro gb727 hg w7 hbox hb; have n0_ := am_ (bb_ BK726.out hb); have n1_ := am_ (below_step (hb1_ HB.out GE726.out) hb); have n2_ := am_ (hbox); have n3_ := am_ (hy_ hg (hb1_ HB.out GE726.out) : w.heap.size ≤ gb727); have n4_ := am_ (hy_ hg (hb1_ HB.out GE726.out) : w.heap.size ≤ gb727); have n5_ := am_ ((bl_ hg BK726.out : gb726 ≠ gb727)); have n6_ := am_ ((bg_ hg BK726.out : gb727 ≠ gb726)); clear BK726; clear HB; have BK726 := n0_; have HB := n1_; have BK727 := n2_; have GW727 := n3_; have GE727 := n4_; have NB726_727 := n5_; have NB727_726 := n6_; clear n0_ n1_ n2_ n3_ n4_ n5_ n6_; clear hb hbox hg; have hnb8 := NB727_726.out; have hnc8 := NB726_727.out; have hcz9_0 := bc_ BK727.out 0 (.bool false) rfl; have hcz9_1 := bc_ BK727.out 1 (.int .i64 0) rfl; have hcz9_2 := bc_ BK727.out 2 (.int .i64 0) rfl; have hcz9_3 := bc_ BK727.out 3 (.int .i64 0) rfl; have hfz9_0 := blk_frozen BK727.out 0; have hfz9_1 := blk_frozen BK727.out 1; have hfz9_2 := blk_frozen BK727.out 2; have hfz9_3 := blk_frozen BK727.out 3; have hcz10_0 := bc_ BK726.out 0 (.bool true) rfl; have hcz10_1 := bc_ BK726.out 1 (.int .i64 a0_1) rfl; have hcz10_2 := bc_ BK726.out 2 (.int .i64 a0_2) rfl; have hcz10_3 := bc_ BK726.out 3 (.int .i64 a0_3) rfl; have hfz10_0 := blk_frozen BK726.out 0; have hfz10_1 := blk_frozen BK726.out 1; have hfz10_2 := blk_frozen BK726.out 2; have hfz10_3 := blk_frozen BK726.out 3) | ((with_reducible refine gate_callee (f := 36) rfl ?_); refine goesL_ (some 13) rfl rfl Try.func36 (by kernel_rfl) rfl #[.agg #[.int .i64 a0_1, .int .i64 a0_2]] rfl arr_ ?_; (with_reducible refine (spec_IvalOk.calls a0_1 a0_2 true _ A3.out).mono ?_); rintro e w11 ⟨rfl, hb⟩; refine ⟨_, rfl, ?_⟩; have n0_ := am_ (blk_below (g := gb726) (o := .cells #[.bool true, .int .i64 a0_1, .int .i64 a0_2, .int .i64 a0_3] 62 (0, 0)) (by (with_reducible repeat (first | refine blk_drewN ?_ _ | refine blk_drew ?_ | refine blk_alloc ?_ _)); refine blk_far ?_ NB726_727.out _; (with_reducible repeat (first | refine blk_drewN ?_ _ | refine blk_drew ?_ | refine blk_alloc ?_ _)); refine blk_far ?_ NB726_727.out _; (with_reducible repeat (first | refine blk_drewN ?_ _ | refine blk_drew ?_ | refine blk_alloc ?_ _)); refine blk_far ?_ NB726_727.out _; (with_reducible repeat (first | refine blk_drewN ?_ _ | refine blk_drew ?_ | refine blk_alloc ?_ _)); refine blk_far ?_ NB726_727.out _; (with_reducible repeat (first | refine blk_drewN ?_ _ | refine blk_drew ?_ | refine blk_alloc ?_ _)); exact BK726.out) hb); have n1_ := am_ (blk_below (g := gb727) (o := .cells #[.bool false, .int .i64 0, .int .i64 0, .int .i64 0] 62 (0, 0)) (by (with_reducible repeat (first | refine blk_drewN ?_ _ | refine blk_drew ?_ | refine blk_alloc ?_ _)); refine blk_put (cs := #[.bool false, .int .i64 0, .int .i64 0, .int .i64 0]) ?_ 3 _ rfl; (with_reducible repeat (first | refine blk_drewN ?_ _ | refine blk_drew ?_ | refine blk_alloc ?_ _)); refine blk_put (cs := #[.bool false, .int .i64 0, .int .i64 0, .int .i64 0]) ?_ 2 _ rfl; (with_reducible repeat (first | refine blk_drewN ?_ _ | refine blk_drew ?_ | refine blk_alloc ?_ _)); refine blk_put (cs := #[.bool false, .int .i64 0, .int .i64 0, .int .i64 0]) ?_ 1 _ rfl; (with_reducible repeat (first | refine blk_drewN ?_ _ | refine blk_drew ?_ | refine blk_alloc ?_ _)); refine blk_put (cs := #[.bool false, .int .i64 0, .int .i64 0, .int .i64 0]) ?_ 0 _ rfl; (with_reducible repeat (first | refine blk_drewN ?_ _ | refine blk_drew ?_ | refine blk_alloc ?_ _)); exact BK727.out) hb); have n2_ := am_ (below_step (hb2_ HB.out GE726.out GE727.out) hb); clear BK726; clear BK727; clear HB; have BK726 := n0_; have BK727 := n1_; have HB := n2_; clear n0_ n1_ n2_; (try clear hb); (try clear hb2); (try clear hk); (try clear hi); have hcz12_0 := bc_ BK726.out 0 (.bool true) rfl; have hcz12_1 := bc_ BK726.out 1 (.int .i64 a0_1) rfl; have hcz12_2 := bc_ BK726.out 2 (.int .i64 a0_2) rfl; have hcz12_3 := bc_ BK726.out 3 (.int .i64 a0_3) rfl; have hfz12_0 := blk_frozen BK726.out 0; have hfz12_1 := blk_frozen BK726.out 1; have hfz12_2 := blk_frozen BK726.out 2; have hfz12_3 := blk_frozen BK726.out 3) | (go_at_call 67; (with_reducible refine (spec_l2Time.calls a0_3 t729 _ A5.out).mono ?_); rintro e w' ⟨rfl, ⟨nd, rfl⟩⟩))
      go_ret
      exact ⟨er_, hb2_ HB.out GE726.out GE727.out⟩
    · replace c4 := Bool.eq_false_iff.mpr c4
      subst c4
      have H1 : (some false) = some r := by rw [if_neg (show ¬ (false = true) by decide)] at H; exact H
      clear H
      have H := H1
      clear H1
      obtain rfl := Option.some.inj H
      go_enter Try.func81, Try.ntmps81
      go_wp2_with (first | ((with_reducible refine gate_dst (N := 1) rfl ?_); refine box_event ?hg (N := 1) ?hd (cs := #[.bool true, .int .i64 a0_1, .int .i64 a0_2, .int .i64 a0_3]) (t := 62) ?hr ?_; (case hd => rfl); (case hg => rfl); (case hr => first|(go_simp;done)|(go_simp;rfl)); intro gb726 hg w13 hbox hb; have n0_ := am_ (below_step (hb_ HB.out) hb); have n1_ := am_ (hbox); have n2_ := am_ (hy_ hg (hb_ HB.out) : w.heap.size ≤ gb726); have n3_ := am_ (hy_ hg (hb_ HB.out) : w.heap.size ≤ gb726); clear HB; have HB := n0_; have BK726 := n1_; have GW726 := n2_; have GE726 := n3_; clear n0_ n1_ n2_ n3_; clear hb hbox hg) | ((with_reducible refine gate_dst (N := 3) rfl ?_); refine box_event ?hg (N := 3) ?hd (cs := #[.bool false, .int .i64 0, .int .i64 0, .int .i64 0]) (t := 62) ?hr ?_; (case hd => rfl); (case hg => rfl); (case hr => first|(go_simp;done)|(go_simp;rfl)); intro gb727 hg w14 hbox hb; have n0_ := am_ (bb_ BK726.out hb); have n1_ := am_ (below_step (hb1_ HB.out GE726.out) hb); have n2_ := am_ (hbox); have n3_ := am_ (hy_ hg (hb1_ HB.out GE726.out) : w.heap.size ≤ gb727); have n4_ := am_ (hy_ hg (hb1_ HB.out GE726.out) : w.heap.size ≤ gb727); have n5_ := am_ ((bl_ hg BK726.out : gb726 ≠ gb727)); have n6_ := am_ ((bg_ hg BK726.out : gb727 ≠ gb726)); clear BK726; clear HB; have BK726 := n0_; have HB := n1_; have BK727 := n2_; have GW727 := n3_; have GE727 := n4_; have NB726_727 := n5_; have NB727_726 := n6_; clear n0_ n1_ n2_ n3_ n4_ n5_ n6_; clear hb hbox hg; have hnb15 := NB727_726.out; have hnc15 := NB726_727.out; have hcz16_0 := bc_ BK727.out 0 (.bool false) rfl; have hcz16_1 := bc_ BK727.out 1 (.int .i64 0) rfl; have hcz16_2 := bc_ BK727.out 2 (.int .i64 0) rfl; have hcz16_3 := bc_ BK727.out 3 (.int .i64 0) rfl; have hfz16_0 := blk_frozen BK727.out 0; have hfz16_1 := blk_frozen BK727.out 1; have hfz16_2 := blk_frozen BK727.out 2; have hfz16_3 := blk_frozen BK727.out 3; have hcz17_0 := bc_ BK726.out 0 (.bool true) rfl; have hcz17_1 := bc_ BK726.out 1 (.int .i64 a0_1) rfl; have hcz17_2 := bc_ BK726.out 2 (.int .i64 a0_2) rfl; have hcz17_3 := bc_ BK726.out 3 (.int .i64 a0_3) rfl; have hfz17_0 := blk_frozen BK726.out 0; have hfz17_1 := blk_frozen BK726.out 1; have hfz17_2 := blk_frozen BK726.out 2; have hfz17_3 := blk_frozen BK726.out 3) | ((with_reducible refine gate_callee (f := 36) rfl ?_); refine goesL_ (some 13) rfl rfl Try.func36 (by kernel_rfl) rfl #[.agg #[.int .i64 a0_1, .int .i64 a0_2]] rfl arr_ ?_; (with_reducible refine (spec_IvalOk.calls a0_1 a0_2 false _ A3.out).mono ?_); rintro e w18 ⟨rfl, hb⟩; refine ⟨_, rfl, ?_⟩; have n0_ := am_ (blk_below (g := gb726) (o := .cells #[.bool true, .int .i64 a0_1, .int .i64 a0_2, .int .i64 a0_3] 62 (0, 0)) (by (with_reducible repeat (first | refine blk_drewN ?_ _ | refine blk_drew ?_ | refine blk_alloc ?_ _)); refine blk_far ?_ NB726_727.out _; (with_reducible repeat (first | refine blk_drewN ?_ _ | refine blk_drew ?_ | refine blk_alloc ?_ _)); refine blk_far ?_ NB726_727.out _; (with_reducible repeat (first | refine blk_drewN ?_ _ | refine blk_drew ?_ | refine blk_alloc ?_ _)); refine blk_far ?_ NB726_727.out _; (with_reducible repeat (first | refine blk_drewN ?_ _ | refine blk_drew ?_ | refine blk_alloc ?_ _)); refine blk_far ?_ NB726_727.out _; (with_reducible repeat (first | refine blk_drewN ?_ _ | refine blk_drew ?_ | refine blk_alloc ?_ _)); exact BK726.out) hb); have n1_ := am_ (blk_below (g := gb727) (o := .cells #[.bool false, .int .i64 0, .int .i64 0, .int .i64 0] 62 (0, 0)) (by (with_reducible repeat (first | refine blk_drewN ?_ _ | refine blk_drew ?_ | refine blk_alloc ?_ _)); refine blk_put (cs := #[.bool false, .int .i64 0, .int .i64 0, .int .i64 0]) ?_ 3 _ rfl; (with_reducible repeat (first | refine blk_drewN ?_ _ | refine blk_drew ?_ | refine blk_alloc ?_ _)); refine blk_put (cs := #[.bool false, .int .i64 0, .int .i64 0, .int .i64 0]) ?_ 2 _ rfl; (with_reducible repeat (first | refine blk_drewN ?_ _ | refine blk_drew ?_ | refine blk_alloc ?_ _)); refine blk_put (cs := #[.bool false, .int .i64 0, .int .i64 0, .int .i64 0]) ?_ 1 _ rfl; (with_reducible repeat (first | refine blk_drewN ?_ _ | refine blk_drew ?_ | refine blk_alloc ?_ _)); refine blk_put (cs := #[.bool false, .int .i64 0, .int .i64 0, .int .i64 0]) ?_ 0 _ rfl; (with_reducible repeat (first | refine blk_drewN ?_ _ | refine blk_drew ?_ | refine blk_alloc ?_ _)); exact BK727.out) hb); have n2_ := am_ (below_step (hb2_ HB.out GE726.out GE727.out) hb); clear BK726; clear BK727; clear HB; have BK726 := n0_; have BK727 := n1_; have HB := n2_; clear n0_ n1_ n2_; (try clear hb); (try clear hb2); (try clear hk); (try clear hi)))
      go_ret
      exact ⟨er_, hb2_ HB.out GE726.out GE727.out⟩
  · replace c2 := Bool.eq_false_iff.mpr c2
    subst c2
    have H1 : (some (!false && ((a0_1 == 0 && (a0_2 == 0)) && (a0_3 == 0)))) = some r := by rw [if_neg (show ¬ (false = true) by decide)] at H; exact H
    clear H
    have H := H1
    clear H1
    obtain rfl := Option.some.inj H
    go_enter Try.func81, Try.ntmps81
    go_wp2_with (first | ((with_reducible refine gate_dst (N := 1) rfl ?_); refine box_event ?hg (N := 1) ?hd (cs := #[.bool false, .int .i64 a0_1, .int .i64 a0_2, .int .i64 a0_3]) (t := 62) ?hr ?_; (case hd => rfl); (case hg => rfl); (case hr => first|(go_simp;done)|(go_simp;rfl)); intro gb726 hg w19 hbox hb; have n0_ := am_ (below_step (hb_ HB.out) hb); have n1_ := am_ (hbox); have n2_ := am_ (hy_ hg (hb_ HB.out) : w.heap.size ≤ gb726); have n3_ := am_ (hy_ hg (hb_ HB.out) : w.heap.size ≤ gb726); clear HB; have HB := n0_; have BK726 := n1_; have GW726 := n2_; have GE726 := n3_; clear n0_ n1_ n2_ n3_; clear hb hbox hg) | ((with_reducible refine gate_dst (N := 3) rfl ?_); refine box_event ?hg (N := 3) ?hd (cs := #[.bool false, .int .i64 0, .int .i64 0, .int .i64 0]) (t := 62) ?hr ?_; (case hd => rfl); (case hg => rfl); (case hr => first|(go_simp;done)|(go_simp;rfl)); intro gb727 hg w20 hbox hb; have n0_ := am_ (bb_ BK726.out hb); have n1_ := am_ (below_step (hb1_ HB.out GE726.out) hb); have n2_ := am_ (hbox); have n3_ := am_ (hy_ hg (hb1_ HB.out GE726.out) : w.heap.size ≤ gb727); have n4_ := am_ (hy_ hg (hb1_ HB.out GE726.out) : w.heap.size ≤ gb727); have n5_ := am_ ((bl_ hg BK726.out : gb726 ≠ gb727)); have n6_ := am_ ((bg_ hg BK726.out : gb727 ≠ gb726)); clear BK726; clear HB; have BK726 := n0_; have HB := n1_; have BK727 := n2_; have GW727 := n3_; have GE727 := n4_; have NB726_727 := n5_; have NB727_726 := n6_; clear n0_ n1_ n2_ n3_ n4_ n5_ n6_; clear hb hbox hg; have hnb21 := NB727_726.out; have hnc21 := NB726_727.out; have hcz22_0 := bc_ BK727.out 0 (.bool false) rfl; have hcz22_1 := bc_ BK727.out 1 (.int .i64 0) rfl; have hcz22_2 := bc_ BK727.out 2 (.int .i64 0) rfl; have hcz22_3 := bc_ BK727.out 3 (.int .i64 0) rfl; have hfz22_0 := blk_frozen BK727.out 0; have hfz22_1 := blk_frozen BK727.out 1; have hfz22_2 := blk_frozen BK727.out 2; have hfz22_3 := blk_frozen BK727.out 3; have hcz23_0 := bc_ BK726.out 0 (.bool false) rfl; have hcz23_1 := bc_ BK726.out 1 (.int .i64 a0_1) rfl; have hcz23_2 := bc_ BK726.out 2 (.int .i64 a0_2) rfl; have hcz23_3 := bc_ BK726.out 3 (.int .i64 a0_3) rfl; have hfz23_0 := blk_frozen BK726.out 0; have hfz23_1 := blk_frozen BK726.out 1; have hfz23_2 := blk_frozen BK726.out 2; have hfz23_3 := blk_frozen BK726.out 3))
    go_ret
    exact ⟨er_, hb2_ HB.out GE726.out GE727.out⟩
end Go.Proofs.Ytejohmompmjhnaa.P
namespace Go.Proofs.Ytejohmompmjhnaa.P
open Go.RowKit Go.Proofs.YtejohmompmjhnaaW.PrintWords Go.Proofs.YtejohmompmjhnaaW.PrintLast Go.Proofs.YtejohmompmjhnaaW.PrintMore
attribute [local go_sem] max2_int min2_int max_two min_two max_three min_three max_four min_four
set_option linter.unusedVariables false
set_option linter.unusedSimpArgs false
def spec_l1Up.f (a0 : Int) (a1 : Int) : Option (Int) := (spec_l1Down.f (wrap64 (-a0)) a1).bind fun t649 => (some (wrap64 (-t649)))
set_option maxHeartbeats 8000000 in
set_option maxRecDepth 100000 in
theorem spec_l1Up.calls (a0 : Int) (a1 : Int) (r : Int) (w : World) (h : spec_l1Up.f a0 a1 = some r) :
    Calls Try.prog 70 #[.int .i64 a0, .int .i64 a1] w fun e w' => e = .returned (.int .i64 r) ∧ Drawn0 w w' := by
  have H : ((spec_l1Down.f (wrap64 (-a0)) a1).bind fun t649 => (some (wrap64 (-t649)))) = some r := h
  clear h
  replace H := Option.bind_eq_some_iff.mp H
  obtain ⟨t649, A30, H⟩ := H
  replace H : (some (wrap64 (-t649))) = some r := H
  have A3 := Aside0.mk A30
  clear A30
  obtain rfl := Option.some.inj H
  go_enter Try.func70, Try.ntmps70
  go_wp2_with (first | ((with_reducible refine gate_callee (f := 69) rfl ?_); refine goesL_ (some 8) rfl rfl Try.func69 (by kernel_rfl) rfl #[.int .i64 (wrap64 (-a0)), .int .i64 a1] rfl arr_ ?_; (with_reducible refine (spec_l1Down.calls (wrap64 (-a0)) a1 t649 _ A3.out).mono ?_); rintro e w' ⟨rfl, ⟨nd, rfl⟩⟩; refine ⟨_, rfl, ?_⟩))
  go_ret
  exact ⟨by first | rfl | (simp; done) | (simp [*]; done), by repeat (first | exact Drawn0.refl _ | apply Drawn0.step)⟩
def spec_LeastTime.j0 : Nat → Int → Bool → Int → Int → Option (Int × Bool)
  | 0, _, _, _, _ => none
  | k + 1, x1, x13, x651000, x651001 => if x13 = true then (some (0, false)) else ((spec_l1Up.f (wrap64 (x1 * x651001)) (wrap64 (x651001 + x651000))).bind fun t653 => ((spec_l2Told.f t653).bind fun bt654 => (some (bt654.1, bt654.2))))
def spec_LeastTime.f (k : Nat) (a0_0 : Int) (a0_1 : Int) (a1 : Int) : Option (Int × Bool) := (spec_DriftOk.f a0_0 a0_1).bind fun t651 => (if t651 = true then ((spec_l2Time.f a1).bind fun t652 => (spec_LeastTime.j0 k a1 (!t652) a0_0 a0_1)) else (spec_LeastTime.j0 k a1 true a0_0 a0_1))
theorem spec_LeastTime.mono_l : ∀ k, (∀ y0 y1 y2 y3, LeO (spec_LeastTime.j0 k y0 y1 y2 y3) (spec_LeastTime.j0 (k + 1) y0 y1 y2 y3))
  | 0 => fun _ _ _ _ r h => by simp [spec_LeastTime.j0] at h
  | k + 1 => by
    have ih0 := spec_LeastTime.mono_l k
    · intro y0 y1 y2 y3
      unfold spec_LeastTime.j0
      repeat' first
      | (with_reducible exact ih0 _ _ _ _)
      | (with_reducible exact LeO.refl _)
      | (with_reducible exact LeO.none _)
      | (with_reducible refine LeO.ite ?_ ?_)
      | (with_reducible refine LeO.bind ?_ (fun _ => ?_))
      | exact ih0 _ _ _ _
      | exact LeO.none _
      | refine LeO.ite ?_ ?_
      | refine LeO.bind ?_ (fun _ => ?_)
theorem spec_LeastTime.mono : ∀ a0 a1 a2 k, LeO (spec_LeastTime.f k a0 a1 a2) (spec_LeastTime.f (k + 1) a0 a1 a2) := by
  intro a0 a1 a2 k
  have ih0 := spec_LeastTime.mono_l k
  unfold spec_LeastTime.f
  repeat' first
      | (with_reducible exact ih0 _ _ _ _)
      | (with_reducible exact LeO.refl _)
      | (with_reducible exact LeO.none _)
      | (with_reducible refine LeO.ite ?_ ?_)
      | (with_reducible refine LeO.bind ?_ (fun _ => ?_))
      | exact ih0 _ _ _ _
      | exact LeO.none _
      | refine LeO.ite ?_ ?_
      | refine LeO.bind ?_ (fun _ => ?_)
set_option maxHeartbeats 8000000 in
set_option maxRecDepth 100000 in
theorem spec_LeastTime.calls (k : Nat) (a0_0 : Int) (a0_1 : Int) (a1 : Int) (r1 : Int) (r2 : Bool) (w : World) (h : spec_LeastTime.f k a0_0 a0_1 a1 = some (r1, r2)) :
    Calls Try.prog 22 #[.agg #[.int .i64 a0_0, .int .i64 a0_1], .int .i64 a1] w fun e w' => e = .returned (.tuple #[.int .i64 r1, .bool r2]) ∧ Below w.heap.size w w' := by
  have hu34 := Try.underlying34
  have HB := am_ (Below.refl w.heap.size w)
  have H : ((spec_DriftOk.f a0_0 a0_1).bind fun t651 => (if t651 = true then ((spec_l2Time.f a1).bind fun t652 => (spec_LeastTime.j0 k a1 (!t652) a0_0 a0_1)) else (spec_LeastTime.j0 k a1 true a0_0 a0_1))) = some (r1, r2) := h
  clear h
  have HC3 := Aside0.mk H
  clear H
  go_enter Try.func22, Try.ntmps22
  go_upto_region 1 with (first | ((with_reducible refine gate_dst (N := 2) rfl ?_); refine box_event ?hg (N := 2) ?hd (cs := #[.int .i64 a0_0, .int .i64 a0_1]) (t := 34) ?hr ?_; (case hd => rfl); (case hg => rfl); (case hr => first|(go_simp;done)|(go_simp;rfl)); intro gb650 hg w4 hbox hb; have n0_ := am_ (below_step (hb_ HB.out) hb); have n1_ := am_ (hbox); have n2_ := am_ (hy_ hg (hb_ HB.out) : w.heap.size ≤ gb650); have n3_ := am_ (hy_ hg (hb_ HB.out) : w.heap.size ≤ gb650); clear HB; have HB := n0_; have BK650 := n1_; have GW650 := n2_; have GE650 := n3_; clear n0_ n1_ n2_ n3_; clear hb hbox hg))
  (try simp only [Act.put, List.setIfInBounds_toArray, List.set_cons_zero, List.set_cons_succ])
  go_cut [13] (fun v13 wc => ∃ (kq : Nat) (x13_2 : Bool), v13 = .bool x13_2 ∧ Aside0 (spec_LeastTime.j0 kq a1 x13_2 a0_0 a0_1 = some (r1, r2)) ∧ Aside0 (kq ≤ k) ∧ Aside0 (wc.heap[gb650]? = some (.cells #[.int .i64 a0_0, .int .i64 a0_1] 34 (0, 0))) ∧ Aside0 (Below w.heap.size w wc))
  case first =>
    have H := HC3.out
    clear HC3
    replace H := Option.bind_eq_some_iff.mp H
    obtain ⟨t651, A50, H⟩ := H
    replace H : (if t651 = true then ((spec_l2Time.f a1).bind fun t652 => (spec_LeastTime.j0 k a1 (!t652) a0_0 a0_1)) else (spec_LeastTime.j0 k a1 true a0_0 a0_1)) = some (r1, r2) := H
    have A5 := Aside0.mk A50
    clear A50
    by_cases c6 : t651 = true
    · subst c6
      have H1 : ((spec_l2Time.f a1).bind fun t652 => (spec_LeastTime.j0 k a1 (!t652) a0_0 a0_1)) = some (r1, r2) := by rw [if_pos rfl] at H; exact H
      clear H
      have H := H1
      clear H1
      replace H := Option.bind_eq_some_iff.mp H
      obtain ⟨t652, A70, H⟩ := H
      replace H : (spec_LeastTime.j0 k a1 (!t652) a0_0 a0_1) = some (r1, r2) := H
      have A7 := Aside0.mk A70
      clear A70
      have H' := Aside0.mk H
      clear H
      have hcz8_0 := bc_ BK650.out 0 (.int .i64 a0_0) rfl
      have hcz8_1 := bc_ BK650.out 1 (.int .i64 a0_1) rfl
      have hfz8_0 := blk_frozen BK650.out 0
      have hfz8_1 := blk_frozen BK650.out 1
      go_wp2_with (first | ((with_reducible refine gate_callee (f := 37) rfl ?_); refine goesL_ (some 7) rfl rfl Try.func37 (by kernel_rfl) rfl #[.agg #[.int .i64 a0_0, .int .i64 a0_1]] rfl arr_ ?_; (with_reducible refine (spec_DriftOk.calls a0_0 a0_1 true _ A5.out).mono ?_); rintro e w9 ⟨rfl, hb⟩; refine ⟨_, rfl, ?_⟩; have n0_ := am_ (bb_ BK650.out hb); have n1_ := am_ (below_step (hb1_ HB.out GE650.out) hb); clear BK650; clear HB; have BK650 := n0_; have HB := n1_; clear n0_ n1_; (try clear hb); (try clear hb2); (try clear hk); (try clear hi)) | (go_at_call 67; (with_reducible refine (spec_l2Time.calls a1 t652 _ A7.out).mono ?_); rintro e w' ⟨rfl, ⟨nd, rfl⟩⟩))
      go_meet
      case rel => exact ⟨_, (!t652), (by first | rfl | (simp; done) | (simp [*]; done)), H', ⟨by first | omega | exact Nat.le_refl _⟩, ⟨bk_ BK650.out⟩, ⟨hb1_ HB.out GE650.out⟩⟩
    · replace c6 := Bool.eq_false_iff.mpr c6
      subst c6
      have H1 : (spec_LeastTime.j0 k a1 true a0_0 a0_1) = some (r1, r2) := by rw [if_neg (show ¬ (false = true) by decide)] at H; exact H
      clear H
      have H := H1
      clear H1
      have H' := Aside0.mk H
      clear H
      have hcz10_0 := bc_ BK650.out 0 (.int .i64 a0_0) rfl
      have hcz10_1 := bc_ BK650.out 1 (.int .i64 a0_1) rfl
      have hfz10_0 := blk_frozen BK650.out 0
      have hfz10_1 := blk_frozen BK650.out 1
      go_wp2_with (first | ((with_reducible refine gate_callee (f := 37) rfl ?_); refine goesL_ (some 7) rfl rfl Try.func37 (by kernel_rfl) rfl #[.agg #[.int .i64 a0_0, .int .i64 a0_1]] rfl arr_ ?_; (with_reducible refine (spec_DriftOk.calls a0_0 a0_1 false _ A5.out).mono ?_); rintro e w11 ⟨rfl, hb⟩; refine ⟨_, rfl, ?_⟩; have n0_ := am_ (bb_ BK650.out hb); have n1_ := am_ (below_step (hb1_ HB.out GE650.out) hb); clear BK650; clear HB; have BK650 := n0_; have HB := n1_; clear n0_ n1_; (try clear hb); (try clear hb2); (try clear hk); (try clear hi)))
      go_meet
      case rel => exact ⟨_, (true), (by first | rfl | (simp; done) | (simp [*]; done)), H', ⟨by first | omega | exact Nat.le_refl _⟩, ⟨bk_ BK650.out⟩, ⟨hb1_ HB.out GE650.out⟩⟩
  case rest =>
    clear HC3
    try clear c2
    try clear p2
    try clear c3
    try clear c6
    try clear hcz10_0
    try clear hcz10_1
    try clear hcz8_0
    try clear hcz8_1
    try clear hfz10_0
    try clear hfz10_1
    try clear hfz8_0
    try clear hfz8_1
    obtain ⟨kq, x13_2, rfl, HA, HJ2, BK650, HB⟩ := hcut
    cases kq with
    | zero => exact absurd HA.out (by simp [spec_LeastTime.j0])
    | succ kj2 =>
      have H := HA.out
      clear HA
      simp only [spec_LeastTime.j0] at H
      by_cases c12 : x13_2 = true
      · subst c12
        have H1 : (some (0, false)) = some (r1, r2) := by rw [if_pos rfl] at H; exact H
        clear H
        have H := H1
        clear H1
        simp only [Option.some.injEq, Prod.mk.injEq] at H
        obtain ⟨rfl, rfl⟩ := H
        go_wp2
        go_ret2
        exact ⟨er_, hb1_ HB.out GE650.out⟩
      · replace c12 := Bool.eq_false_iff.mpr c12
        subst c12
        have H1 : ((spec_l1Up.f (wrap64 (a1 * a0_1)) (wrap64 (a0_1 + a0_0))).bind fun t653 => ((spec_l2Told.f t653).bind fun bt654 => (some (bt654.1, bt654.2)))) = some (r1, r2) := by rw [if_neg (show ¬ (false = true) by decide)] at H; exact H
        clear H
        have H := H1
        clear H1
        replace H := Option.bind_eq_some_iff.mp H
        obtain ⟨t653, A130, H⟩ := H
        replace H : ((spec_l2Told.f t653).bind fun bt654 => (some (bt654.1, bt654.2))) = some (r1, r2) := H
        have A13 := Aside0.mk A130
        clear A130
        replace H := Option.bind_eq_some_iff.mp H
        obtain ⟨⟨t654, t655⟩, A140, H⟩ := H
        replace H : (some (t654, t655)) = some (r1, r2) := H
        have A14 := Aside0.mk A140
        clear A140
        simp only [Option.some.injEq, Prod.mk.injEq] at H
        obtain ⟨rfl, rfl⟩ := H
        have hcz15_0 := bc_ BK650.out 0 (.int .i64 a0_0) rfl
        have hcz15_1 := bc_ BK650.out 1 (.int .i64 a0_1) rfl
        have hfz15_0 := blk_frozen BK650.out 0
        have hfz15_1 := blk_frozen BK650.out 1
        go_wp2_with (first | ((with_reducible refine gate_callee (f := 70) rfl ?_); refine goesL_ (some 23) rfl rfl Try.func70 (by kernel_rfl) rfl #[.int .i64 (wrap64 (a1 * a0_1)), .int .i64 (wrap64 (a0_1 + a0_0))] rfl arr_ ?_; (with_reducible refine (spec_l1Up.calls (wrap64 (a1 * a0_1)) (wrap64 (a0_1 + a0_0)) t653 _ A13.out).mono ?_); rintro e w' ⟨rfl, ⟨nd, rfl⟩⟩; refine ⟨_, rfl, ?_⟩) | ((with_reducible refine gate_callee (f := 68) rfl ?_); refine goesL_ (some 24) rfl rfl Try.func68 (by kernel_rfl) rfl #[.int .i64 t653] rfl arr_ ?_; (with_reducible refine (spec_l2Told.calls t653 t654 t655 _ A14.out).mono ?_); rintro e w' ⟨rfl, ⟨nd, rfl⟩⟩; refine ⟨_, rfl, ?_⟩))
        go_ret2
        exact ⟨er_, hb1_ HB.out GE650.out⟩
def spec_Between.f (k : Nat) (a0_0 : Int) (a0_1 : Int) (a1 : Int) : Option (Int × Int × Bool) := (spec_LeastTime.f k a0_0 a0_1 a1).bind fun bt732 => ((spec_MostTime.f k a0_0 a0_1 a1).bind fun bt734 => (if bt732.2 = true then (if bt734.2 = true then (some (bt732.1, bt734.1, true)) else (some (0, 0, false))) else (some (0, 0, false))))
theorem spec_Between.mono : ∀ a0 a1 a2 k, LeO (spec_Between.f k a0 a1 a2) (spec_Between.f (k + 1) a0 a1 a2) := by
  intro a0 a1 a2 k
  unfold spec_Between.f
  repeat' first
      | (with_reducible exact spec_LeastTime.mono _ _ _ _)
      | (with_reducible exact spec_MostTime.mono _ _ _ _)
      | (with_reducible exact LeO.refl _)
      | (with_reducible exact LeO.none _)
      | (with_reducible refine LeO.ite ?_ ?_)
      | (with_reducible refine LeO.bind ?_ (fun _ => ?_))
      | exact spec_LeastTime.mono _ _ _ _
      | exact spec_MostTime.mono _ _ _ _
      | exact LeO.none _
      | refine LeO.ite ?_ ?_
      | refine LeO.bind ?_ (fun _ => ?_)
set_option maxHeartbeats 8000000 in
set_option maxRecDepth 100000 in
theorem spec_Between.calls (k : Nat) (a0_0 : Int) (a0_1 : Int) (a1 : Int) (r1 : Int) (r2 : Int) (r3 : Bool) (w : World) (h : spec_Between.f k a0_0 a0_1 a1 = some (r1, r2, r3)) :
    Calls Try.prog 82 #[.agg #[.int .i64 a0_0, .int .i64 a0_1], .int .i64 a1] w fun e w' => e = .returned (.tuple #[.agg #[.int .i64 r1, .int .i64 r2], .bool r3]) ∧ Below w.heap.size w w' := by
  have hu34 := Try.underlying34
  have hu32 := Try.underlying32
  have HB := am_ (Below.refl w.heap.size w)
  have H : ((spec_LeastTime.f k a0_0 a0_1 a1).bind fun bt732 => ((spec_MostTime.f k a0_0 a0_1 a1).bind fun bt734 => (if bt732.2 = true then (if bt734.2 = true then (some (bt732.1, bt734.1, true)) else (some (0, 0, false))) else (some (0, 0, false))))) = some (r1, r2, r3) := h
  clear h
  replace H := Option.bind_eq_some_iff.mp H
  obtain ⟨⟨t732, t733⟩, A30, H⟩ := H
  replace H : ((spec_MostTime.f k a0_0 a0_1 a1).bind fun bt734 => (if t733 = true then (if bt734.2 = true then (some (t732, bt734.1, true)) else (some (0, 0, false))) else (some (0, 0, false)))) = some (r1, r2, r3) := H
  have A3 := Aside0.mk A30
  clear A30
  replace H := Option.bind_eq_some_iff.mp H
  obtain ⟨⟨t734, t735⟩, A40, H⟩ := H
  replace H : (if t733 = true then (if t735 = true then (some (t732, t734, true)) else (some (0, 0, false))) else (some (0, 0, false))) = some (r1, r2, r3) := H
  have A4 := Aside0.mk A40
  clear A40
  by_cases c5 : t733 = true
  · subst c5
    have H1 : (if t735 = true then (some (t732, t734, true)) else (some (0, 0, false))) = some (r1, r2, r3) := by rw [if_pos rfl] at H; exact H
    clear H
    have H := H1
    clear H1
    by_cases c6 : t735 = true
    · subst c6
      have H1 : (some (t732, t734, true)) = some (r1, r2, r3) := by rw [if_pos rfl] at H; exact H
      clear H
      have H := H1
      clear H1
      simp only [Option.some.injEq, Prod.mk.injEq] at H
      obtain ⟨rfl, rfl, rfl⟩ := H
      go_enter Try.func82, Try.ntmps82
      go_wp2_with (first | ((with_reducible refine gate_dst (N := 2) rfl ?_); refine box_event ?hg (N := 2) ?hd (cs := #[.int .i64 a0_0, .int .i64 a0_1]) (t := 34) ?hr ?_; (case hd => rfl); (case hg => rfl); (case hr => first|(go_simp;done)|(go_simp;rfl)); intro gb730 hg w7 hbox hb; have n0_ := am_ (below_step (hb_ HB.out) hb); have n1_ := am_ (hbox); have n2_ := am_ (hy_ hg (hb_ HB.out) : w.heap.size ≤ gb730); have n3_ := am_ (hy_ hg (hb_ HB.out) : w.heap.size ≤ gb730); clear HB; have HB := n0_; have BK730 := n1_; have GW730 := n2_; have GE730 := n3_; clear n0_ n1_ n2_ n3_; clear hb hbox hg) | ((with_reducible refine gate_dst (N := 4) rfl ?_); refine box_event ?hg (N := 4) ?hd (cs := #[.int .i64 0, .int .i64 0]) (t := 32) ?hr ?_; (case hd => rfl); (case hg => rfl); (case hr => first|(go_simp;done)|(go_simp;rfl)); intro gb731 hg w8 hbox hb; have n0_ := am_ (bb_ BK730.out hb); have n1_ := am_ (below_step (hb1_ HB.out GE730.out) hb); have n2_ := am_ (hbox); have n3_ := am_ (hy_ hg (hb1_ HB.out GE730.out) : w.heap.size ≤ gb731); have n4_ := am_ (hy_ hg (hb1_ HB.out GE730.out) : w.heap.size ≤ gb731); have n5_ := am_ ((bl_ hg BK730.out : gb730 ≠ gb731)); have n6_ := am_ ((bg_ hg BK730.out : gb731 ≠ gb730)); clear BK730; clear HB; have BK730 := n0_; have HB := n1_; have BK731 := n2_; have GW731 := n3_; have GE731 := n4_; have NB730_731 := n5_; have NB731_730 := n6_; clear n0_ n1_ n2_ n3_ n4_ n5_ n6_; clear hb hbox hg; have hnb9 := NB730_731.out; have hnc9 := NB731_730.out; have hcz10_0 := bc_ BK730.out 0 (.int .i64 a0_0) rfl; have hcz10_1 := bc_ BK730.out 1 (.int .i64 a0_1) rfl; have hfz10_0 := blk_frozen BK730.out 0; have hfz10_1 := blk_frozen BK730.out 1) | ((with_reducible refine gate_callee (f := 22) rfl ?_); refine goesL_ (some 13) rfl rfl Try.func22 (by kernel_rfl) rfl #[.agg #[.int .i64 a0_0, .int .i64 a0_1], .int .i64 a1] rfl arr_ ?_; (with_reducible refine (spec_LeastTime.calls k a0_0 a0_1 a1 t732 true _ A3.out).mono ?_); rintro e w11 ⟨rfl, hb⟩; refine ⟨_, rfl, ?_⟩; have n0_ := am_ (bb_ BK730.out hb); have n1_ := am_ (bb_ BK731.out hb); have n2_ := am_ (below_step (hb2_ HB.out GE730.out GE731.out) hb); clear BK730; clear BK731; clear HB; have BK730 := n0_; have BK731 := n1_; have HB := n2_; clear n0_ n1_ n2_; (try clear hb); (try clear hb2); (try clear hk); (try clear hi); have hcz12_0 := bc_ BK730.out 0 (.int .i64 a0_0) rfl; have hcz12_1 := bc_ BK730.out 1 (.int .i64 a0_1) rfl; have hfz12_0 := blk_frozen BK730.out 0; have hfz12_1 := blk_frozen BK730.out 1) | ((with_reducible refine gate_callee (f := 21) rfl ?_); refine goesL_ (some 19) rfl rfl Try.func21 (by kernel_rfl) rfl #[.agg #[.int .i64 a0_0, .int .i64 a0_1], .int .i64 a1] rfl arr_ ?_; (with_reducible refine (spec_MostTime.calls k a0_0 a0_1 a1 t734 true _ A4.out).mono ?_); rintro e w13 ⟨rfl, hb⟩; refine ⟨_, rfl, ?_⟩; have n0_ := am_ (bb_ BK730.out hb); have n1_ := am_ (bb_ BK731.out hb); have n2_ := am_ (below_step (hb2_ HB.out GE730.out GE731.out) hb); clear BK730; clear BK731; clear HB; have BK730 := n0_; have BK731 := n1_; have HB := n2_; clear n0_ n1_ n2_; (try clear hb); (try clear hb2); (try clear hk); (try clear hi); have hcz14_0 := bc_ BK731.out 0 (.int .i64 0) rfl; have hcz14_1 := bc_ BK731.out 1 (.int .i64 0) rfl; have hfz14_0 := blk_frozen BK731.out 0; have hfz14_1 := blk_frozen BK731.out 1))
      refine bodyPost_ret (results_ct rfl _ _ gb731 32 #[.int .i64 t732, .int .i64 t734] (0, 0) _ rfl (by (with_reducible repeat (first | refine blk_drewN ?_ _ | refine blk_drew ?_ | refine blk_alloc ?_ _)); refine blk_put (cs := #[.int .i64 t732, .int .i64 0]) ?_ 1 _ rfl; (with_reducible repeat (first | refine blk_drewN ?_ _ | refine blk_drew ?_ | refine blk_alloc ?_ _)); refine blk_put (cs := #[.int .i64 0, .int .i64 0]) ?_ 0 _ rfl; (with_reducible repeat (first | refine blk_drewN ?_ _ | refine blk_drew ?_ | refine blk_alloc ?_ _)); exact BK731.out) Try.underlying32 rfl (by kernel_rfl)) rfl ?_
      exact ⟨er_, hb2_ HB.out GE730.out GE731.out⟩
    · replace c6 := Bool.eq_false_iff.mpr c6
      subst c6
      have H1 : (some (0, 0, false)) = some (r1, r2, r3) := by rw [if_neg (show ¬ (false = true) by decide)] at H; exact H
      clear H
      have H := H1
      clear H1
      simp only [Option.some.injEq, Prod.mk.injEq] at H
      obtain ⟨rfl, rfl, rfl⟩ := H
      go_enter Try.func82, Try.ntmps82
      go_wp2_with (first | ((with_reducible refine gate_dst (N := 2) rfl ?_); refine box_event ?hg (N := 2) ?hd (cs := #[.int .i64 a0_0, .int .i64 a0_1]) (t := 34) ?hr ?_; (case hd => rfl); (case hg => rfl); (case hr => first|(go_simp;done)|(go_simp;rfl)); intro gb730 hg w15 hbox hb; have n0_ := am_ (below_step (hb_ HB.out) hb); have n1_ := am_ (hbox); have n2_ := am_ (hy_ hg (hb_ HB.out) : w.heap.size ≤ gb730); have n3_ := am_ (hy_ hg (hb_ HB.out) : w.heap.size ≤ gb730); clear HB; have HB := n0_; have BK730 := n1_; have GW730 := n2_; have GE730 := n3_; clear n0_ n1_ n2_ n3_; clear hb hbox hg) | ((with_reducible refine gate_dst (N := 4) rfl ?_); refine box_event ?hg (N := 4) ?hd (cs := #[.int .i64 0, .int .i64 0]) (t := 32) ?hr ?_; (case hd => rfl); (case hg => rfl); (case hr => first|(go_simp;done)|(go_simp;rfl)); intro gb731 hg w16 hbox hb; have n0_ := am_ (bb_ BK730.out hb); have n1_ := am_ (below_step (hb1_ HB.out GE730.out) hb); have n2_ := am_ (hbox); have n3_ := am_ (hy_ hg (hb1_ HB.out GE730.out) : w.heap.size ≤ gb731); have n4_ := am_ (hy_ hg (hb1_ HB.out GE730.out) : w.heap.size ≤ gb731); have n5_ := am_ ((bl_ hg BK730.out : gb730 ≠ gb731)); have n6_ := am_ ((bg_ hg BK730.out : gb731 ≠ gb730)); clear BK730; clear HB; have BK730 := n0_; have HB := n1_; have BK731 := n2_; have GW731 := n3_; have GE731 := n4_; have NB730_731 := n5_; have NB731_730 := n6_; clear n0_ n1_ n2_ n3_ n4_ n5_ n6_; clear hb hbox hg; have hnb17 := NB730_731.out; have hnc17 := NB731_730.out; have hcz18_0 := bc_ BK730.out 0 (.int .i64 a0_0) rfl; have hcz18_1 := bc_ BK730.out 1 (.int .i64 a0_1) rfl; have hfz18_0 := blk_frozen BK730.out 0; have hfz18_1 := blk_frozen BK730.out 1) | ((with_reducible refine gate_callee (f := 22) rfl ?_); refine goesL_ (some 13) rfl rfl Try.func22 (by kernel_rfl) rfl #[.agg #[.int .i64 a0_0, .int .i64 a0_1], .int .i64 a1] rfl arr_ ?_; (with_reducible refine (spec_LeastTime.calls k a0_0 a0_1 a1 t732 true _ A3.out).mono ?_); rintro e w19 ⟨rfl, hb⟩; refine ⟨_, rfl, ?_⟩; have n0_ := am_ (bb_ BK730.out hb); have n1_ := am_ (bb_ BK731.out hb); have n2_ := am_ (below_step (hb2_ HB.out GE730.out GE731.out) hb); clear BK730; clear BK731; clear HB; have BK730 := n0_; have BK731 := n1_; have HB := n2_; clear n0_ n1_ n2_; (try clear hb); (try clear hb2); (try clear hk); (try clear hi); have hcz20_0 := bc_ BK730.out 0 (.int .i64 a0_0) rfl; have hcz20_1 := bc_ BK730.out 1 (.int .i64 a0_1) rfl; have hfz20_0 := blk_frozen BK730.out 0; have hfz20_1 := blk_frozen BK730.out 1) | ((with_reducible refine gate_callee (f := 21) rfl ?_); refine goesL_ (some 19) rfl rfl Try.func21 (by kernel_rfl) rfl #[.agg #[.int .i64 a0_0, .int .i64 a0_1], .int .i64 a1] rfl arr_ ?_; (with_reducible refine (spec_MostTime.calls k a0_0 a0_1 a1 t734 false _ A4.out).mono ?_); rintro e w21 ⟨rfl, hb⟩; refine ⟨_, rfl, ?_⟩; have n0_ := am_ (bb_ BK730.out hb); have n1_ := am_ (bb_ BK731.out hb); have n2_ := am_ (below_step (hb2_ HB.out GE730.out GE731.out) hb); clear BK730; clear BK731; clear HB; have BK730 := n0_; have BK731 := n1_; have HB := n2_; clear n0_ n1_ n2_; (try clear hb); (try clear hb2); (try clear hk); (try clear hi); have hcz22_0 := bc_ BK731.out 0 (.int .i64 0) rfl; have hcz22_1 := bc_ BK731.out 1 (.int .i64 0) rfl; have hfz22_0 := blk_frozen BK731.out 0; have hfz22_1 := blk_frozen BK731.out 1))
      refine bodyPost_ret (results_ct rfl _ _ gb731 32 #[.int .i64 0, .int .i64 0] (0, 0) _ rfl (by (with_reducible repeat (first | refine blk_drewN ?_ _ | refine blk_drew ?_ | refine blk_alloc ?_ _)); refine blk_put (cs := #[.int .i64 0, .int .i64 0]) ?_ 1 _ rfl; (with_reducible repeat (first | refine blk_drewN ?_ _ | refine blk_drew ?_ | refine blk_alloc ?_ _)); refine blk_put (cs := #[.int .i64 0, .int .i64 0]) ?_ 0 _ rfl; (with_reducible repeat (first | refine blk_drewN ?_ _ | refine blk_drew ?_ | refine blk_alloc ?_ _)); exact BK731.out) Try.underlying32 rfl (by kernel_rfl)) rfl ?_
      exact ⟨er_, hb2_ HB.out GE730.out GE731.out⟩
  · replace c5 := Bool.eq_false_iff.mpr c5
    subst c5
    have H1 : (some (0, 0, false)) = some (r1, r2, r3) := by rw [if_neg (show ¬ (false = true) by decide)] at H; exact H
    clear H
    have H := H1
    clear H1
    simp only [Option.some.injEq, Prod.mk.injEq] at H
    obtain ⟨rfl, rfl, rfl⟩ := H
    go_enter Try.func82, Try.ntmps82
    go_wp2_with (first | ((with_reducible refine gate_dst (N := 2) rfl ?_); refine box_event ?hg (N := 2) ?hd (cs := #[.int .i64 a0_0, .int .i64 a0_1]) (t := 34) ?hr ?_; (case hd => rfl); (case hg => rfl); (case hr => first|(go_simp;done)|(go_simp;rfl)); intro gb730 hg w23 hbox hb; have n0_ := am_ (below_step (hb_ HB.out) hb); have n1_ := am_ (hbox); have n2_ := am_ (hy_ hg (hb_ HB.out) : w.heap.size ≤ gb730); have n3_ := am_ (hy_ hg (hb_ HB.out) : w.heap.size ≤ gb730); clear HB; have HB := n0_; have BK730 := n1_; have GW730 := n2_; have GE730 := n3_; clear n0_ n1_ n2_ n3_; clear hb hbox hg) | ((with_reducible refine gate_dst (N := 4) rfl ?_); refine box_event ?hg (N := 4) ?hd (cs := #[.int .i64 0, .int .i64 0]) (t := 32) ?hr ?_; (case hd => rfl); (case hg => rfl); (case hr => first|(go_simp;done)|(go_simp;rfl)); intro gb731 hg w24 hbox hb; have n0_ := am_ (bb_ BK730.out hb); have n1_ := am_ (below_step (hb1_ HB.out GE730.out) hb); have n2_ := am_ (hbox); have n3_ := am_ (hy_ hg (hb1_ HB.out GE730.out) : w.heap.size ≤ gb731); have n4_ := am_ (hy_ hg (hb1_ HB.out GE730.out) : w.heap.size ≤ gb731); have n5_ := am_ ((bl_ hg BK730.out : gb730 ≠ gb731)); have n6_ := am_ ((bg_ hg BK730.out : gb731 ≠ gb730)); clear BK730; clear HB; have BK730 := n0_; have HB := n1_; have BK731 := n2_; have GW731 := n3_; have GE731 := n4_; have NB730_731 := n5_; have NB731_730 := n6_; clear n0_ n1_ n2_ n3_ n4_ n5_ n6_; clear hb hbox hg; have hnb25 := NB730_731.out; have hnc25 := NB731_730.out; have hcz26_0 := bc_ BK730.out 0 (.int .i64 a0_0) rfl; have hcz26_1 := bc_ BK730.out 1 (.int .i64 a0_1) rfl; have hfz26_0 := blk_frozen BK730.out 0; have hfz26_1 := blk_frozen BK730.out 1) | ((with_reducible refine gate_callee (f := 22) rfl ?_); refine goesL_ (some 13) rfl rfl Try.func22 (by kernel_rfl) rfl #[.agg #[.int .i64 a0_0, .int .i64 a0_1], .int .i64 a1] rfl arr_ ?_; (with_reducible refine (spec_LeastTime.calls k a0_0 a0_1 a1 t732 false _ A3.out).mono ?_); rintro e w27 ⟨rfl, hb⟩; refine ⟨_, rfl, ?_⟩; have n0_ := am_ (bb_ BK730.out hb); have n1_ := am_ (bb_ BK731.out hb); have n2_ := am_ (below_step (hb2_ HB.out GE730.out GE731.out) hb); clear BK730; clear BK731; clear HB; have BK730 := n0_; have BK731 := n1_; have HB := n2_; clear n0_ n1_ n2_; (try clear hb); (try clear hb2); (try clear hk); (try clear hi); have hcz28_0 := bc_ BK730.out 0 (.int .i64 a0_0) rfl; have hcz28_1 := bc_ BK730.out 1 (.int .i64 a0_1) rfl; have hfz28_0 := blk_frozen BK730.out 0; have hfz28_1 := blk_frozen BK730.out 1) | ((with_reducible refine gate_callee (f := 21) rfl ?_); refine goesL_ (some 19) rfl rfl Try.func21 (by kernel_rfl) rfl #[.agg #[.int .i64 a0_0, .int .i64 a0_1], .int .i64 a1] rfl arr_ ?_; (with_reducible refine (spec_MostTime.calls k a0_0 a0_1 a1 t734 t735 _ A4.out).mono ?_); rintro e w29 ⟨rfl, hb⟩; refine ⟨_, rfl, ?_⟩; have n0_ := am_ (bb_ BK730.out hb); have n1_ := am_ (bb_ BK731.out hb); have n2_ := am_ (below_step (hb2_ HB.out GE730.out GE731.out) hb); clear BK730; clear BK731; clear HB; have BK730 := n0_; have BK731 := n1_; have HB := n2_; clear n0_ n1_ n2_; (try clear hb); (try clear hb2); (try clear hk); (try clear hi); have hcz30_0 := bc_ BK731.out 0 (.int .i64 0) rfl; have hcz30_1 := bc_ BK731.out 1 (.int .i64 0) rfl; have hfz30_0 := blk_frozen BK731.out 0; have hfz30_1 := blk_frozen BK731.out 1))
    refine bodyPost_ret (results_ct rfl _ _ gb731 32 #[.int .i64 0, .int .i64 0] (0, 0) _ rfl (by (with_reducible repeat (first | refine blk_drewN ?_ _ | refine blk_drew ?_ | refine blk_alloc ?_ _)); refine blk_put (cs := #[.int .i64 0, .int .i64 0]) ?_ 1 _ rfl; (with_reducible repeat (first | refine blk_drewN ?_ _ | refine blk_drew ?_ | refine blk_alloc ?_ _)); refine blk_put (cs := #[.int .i64 0, .int .i64 0]) ?_ 0 _ rfl; (with_reducible repeat (first | refine blk_drewN ?_ _ | refine blk_drew ?_ | refine blk_alloc ?_ _)); exact BK731.out) Try.underlying32 rfl (by kernel_rfl)) rfl ?_
    exact ⟨er_, hb2_ HB.out GE730.out GE731.out⟩
def spec_PlusIval.f (a0_0 : Int) (a0_1 : Int) (a1_0 : Int) (a1_1 : Int) : Option (Int × Int × Bool) := (spec_IvalOk.f a0_0 a0_1).bind fun t739 => (if t739 = true then ((spec_IvalOk.f a1_0 a1_1).bind fun t740 => (if t740 = true then ((spec_l1Told.f (wrap64 (a0_0 + a1_0)) (wrap64 (a0_1 + a1_1))).bind fun bt741 => (some (bt741.1, bt741.2.1, bt741.2.2))) else (some (0, 0, false)))) else (some (0, 0, false)))
set_option maxHeartbeats 8000000 in
set_option maxRecDepth 100000 in
theorem spec_PlusIval.calls (a0_0 : Int) (a0_1 : Int) (a1_0 : Int) (a1_1 : Int) (r1 : Int) (r2 : Int) (r3 : Bool) (w : World) (h : spec_PlusIval.f a0_0 a0_1 a1_0 a1_1 = some (r1, r2, r3)) :
    Calls Try.prog 83 #[.agg #[.int .i64 a0_0, .int .i64 a0_1], .agg #[.int .i64 a1_0, .int .i64 a1_1]] w fun e w' => e = .returned (.tuple #[.agg #[.int .i64 r1, .int .i64 r2], .bool r3]) ∧ Below w.heap.size w w' := by
  have hu32 := Try.underlying32
  have HB := am_ (Below.refl w.heap.size w)
  have H : ((spec_IvalOk.f a0_0 a0_1).bind fun t739 => (if t739 = true then ((spec_IvalOk.f a1_0 a1_1).bind fun t740 => (if t740 = true then ((spec_l1Told.f (wrap64 (a0_0 + a1_0)) (wrap64 (a0_1 + a1_1))).bind fun bt741 => (some (bt741.1, bt741.2.1, bt741.2.2))) else (some (0, 0, false)))) else (some (0, 0, false)))) = some (r1, r2, r3) := h
  clear h
  replace H := Option.bind_eq_some_iff.mp H
  obtain ⟨t739, A30, H⟩ := H
  replace H : (if t739 = true then ((spec_IvalOk.f a1_0 a1_1).bind fun t740 => (if t740 = true then ((spec_l1Told.f (wrap64 (a0_0 + a1_0)) (wrap64 (a0_1 + a1_1))).bind fun bt741 => (some (bt741.1, bt741.2.1, bt741.2.2))) else (some (0, 0, false)))) else (some (0, 0, false))) = some (r1, r2, r3) := H
  have A3 := Aside0.mk A30
  clear A30
  by_cases c4 : t739 = true
  · subst c4
    have H1 : ((spec_IvalOk.f a1_0 a1_1).bind fun t740 => (if t740 = true then ((spec_l1Told.f (wrap64 (a0_0 + a1_0)) (wrap64 (a0_1 + a1_1))).bind fun bt741 => (some (bt741.1, bt741.2.1, bt741.2.2))) else (some (0, 0, false)))) = some (r1, r2, r3) := by rw [if_pos rfl] at H; exact H
    clear H
    have H := H1
    clear H1
    replace H := Option.bind_eq_some_iff.mp H
    obtain ⟨t740, A50, H⟩ := H
    replace H : (if t740 = true then ((spec_l1Told.f (wrap64 (a0_0 + a1_0)) (wrap64 (a0_1 + a1_1))).bind fun bt741 => (some (bt741.1, bt741.2.1, bt741.2.2))) else (some (0, 0, false))) = some (r1, r2, r3) := H
    have A5 := Aside0.mk A50
    clear A50
    by_cases c6 : t740 = true
    · subst c6
      have H1 : ((spec_l1Told.f (wrap64 (a0_0 + a1_0)) (wrap64 (a0_1 + a1_1))).bind fun bt741 => (some (bt741.1, bt741.2.1, bt741.2.2))) = some (r1, r2, r3) := by rw [if_pos rfl] at H; exact H
      clear H
      have H := H1
      clear H1
      replace H := Option.bind_eq_some_iff.mp H
      obtain ⟨⟨t741, t742, t743⟩, A70, H⟩ := H
      replace H : (some (t741, t742, t743)) = some (r1, r2, r3) := H
      have A7 := Aside0.mk A70
      clear A70
      simp only [Option.some.injEq, Prod.mk.injEq] at H
      obtain ⟨rfl, rfl, rfl⟩ := H
      go_enter Try.func83, Try.ntmps83
      go_wp2_with (first | ((with_reducible refine gate_dst (N := 2) rfl ?_); refine box_event ?hg (N := 2) ?hd (cs := #[.int .i64 a0_0, .int .i64 a0_1]) (t := 32) ?hr ?_; (case hd => rfl); (case hg => rfl); (case hr => first|(go_simp;done)|(go_simp;rfl)); intro gb736 hg w8 hbox hb; have n0_ := am_ (below_step (hb_ HB.out) hb); have n1_ := am_ (hbox); have n2_ := am_ (hy_ hg (hb_ HB.out) : w.heap.size ≤ gb736); have n3_ := am_ (hy_ hg (hb_ HB.out) : w.heap.size ≤ gb736); clear HB; have HB := n0_; have BK736 := n1_; have GW736 := n2_; have GE736 := n3_; clear n0_ n1_ n2_ n3_; clear hb hbox hg) | ((with_reducible refine gate_dst (N := 3) rfl ?_); refine box_event ?hg (N := 3) ?hd (cs := #[.int .i64 a1_0, .int .i64 a1_1]) (t := 32) ?hr ?_; (case hd => rfl); (case hg => rfl); (case hr => first|(go_simp;done)|(go_simp;rfl)); intro gb737 hg w9 hbox hb; have n0_ := am_ (bb_ BK736.out hb); have n1_ := am_ (below_step (hb1_ HB.out GE736.out) hb); have n2_ := am_ (hbox); have n3_ := am_ (hy_ hg (hb1_ HB.out GE736.out) : w.heap.size ≤ gb737); have n4_ := am_ (hy_ hg (hb1_ HB.out GE736.out) : w.heap.size ≤ gb737); have n5_ := am_ ((bl_ hg BK736.out : gb736 ≠ gb737)); have n6_ := am_ ((bg_ hg BK736.out : gb737 ≠ gb736)); clear BK736; clear HB; have BK736 := n0_; have HB := n1_; have BK737 := n2_; have GW737 := n3_; have GE737 := n4_; have NB736_737 := n5_; have NB737_736 := n6_; clear n0_ n1_ n2_ n3_ n4_ n5_ n6_; clear hb hbox hg) | ((with_reducible refine gate_dst (N := 4) rfl ?_); refine box_event ?hg (N := 4) ?hd (cs := #[.int .i64 0, .int .i64 0]) (t := 32) ?hr ?_; (case hd => rfl); (case hg => rfl); (case hr => first|(go_simp;done)|(go_simp;rfl)); intro gb738 hg w10 hbox hb; have n0_ := am_ (bb_ BK736.out hb); have n1_ := am_ (bb_ BK737.out hb); have n2_ := am_ (below_step (hb2_ HB.out GE736.out GE737.out) hb); have n3_ := am_ (hbox); have n4_ := am_ (hy_ hg (hb2_ HB.out GE736.out GE737.out) : w.heap.size ≤ gb738); have n5_ := am_ (hy_ hg (hb2_ HB.out GE736.out GE737.out) : w.heap.size ≤ gb738); have n6_ := am_ ((bl_ hg BK736.out : gb736 ≠ gb738)); have n7_ := am_ ((bg_ hg BK736.out : gb738 ≠ gb736)); have n8_ := am_ ((bl_ hg BK737.out : gb737 ≠ gb738)); have n9_ := am_ ((bg_ hg BK737.out : gb738 ≠ gb737)); clear BK736; clear BK737; clear HB; have BK736 := n0_; have BK737 := n1_; have HB := n2_; have BK738 := n3_; have GW738 := n4_; have GE738 := n5_; have NB736_738 := n6_; have NB738_736 := n7_; have NB737_738 := n8_; have NB738_737 := n9_; clear n0_ n1_ n2_ n3_ n4_ n5_ n6_ n7_ n8_ n9_; clear hb hbox hg; have hnb11 := NB736_737.out; have hnc11 := NB737_736.out; have hnb12 := NB736_738.out; have hnc12 := NB738_736.out; have hcz13_0 := bc_ BK736.out 0 (.int .i64 a0_0) rfl; have hcz13_1 := bc_ BK736.out 1 (.int .i64 a0_1) rfl; have hfz13_0 := blk_frozen BK736.out 0; have hfz13_1 := blk_frozen BK736.out 1) | ((with_reducible refine gate_callee (f := 36) rfl ?_); refine goesL_ (some 7) rfl rfl Try.func36 (by kernel_rfl) rfl #[.agg #[.int .i64 a0_0, .int .i64 a0_1]] rfl arr_ ?_; (with_reducible refine (spec_IvalOk.calls a0_0 a0_1 true _ A3.out).mono ?_); rintro e w14 ⟨rfl, hb⟩; refine ⟨_, rfl, ?_⟩; have n0_ := am_ (bb_ BK736.out hb); have n1_ := am_ (bb_ BK737.out hb); have n2_ := am_ (bb_ BK738.out hb); have n3_ := am_ (below_step (hb3_ HB.out GE736.out GE737.out GE738.out) hb); clear BK736; clear BK737; clear BK738; clear HB; have BK736 := n0_; have BK737 := n1_; have BK738 := n2_; have HB := n3_; clear n0_ n1_ n2_ n3_; (try clear hb); (try clear hb2); (try clear hk); (try clear hi); have hnb15 := NB737_738.out; have hnc15 := NB738_737.out; have hcz16_0 := bc_ BK737.out 0 (.int .i64 a1_0) rfl; have hcz16_1 := bc_ BK737.out 1 (.int .i64 a1_1) rfl; have hfz16_0 := blk_frozen BK737.out 0; have hfz16_1 := blk_frozen BK737.out 1) | (go_at_call 36; (with_reducible refine (spec_IvalOk.calls a1_0 a1_1 true _ A5.out).mono ?_); rintro e w17 ⟨rfl, hb⟩; have n0_ := am_ (bb_ BK736.out hb); have n1_ := am_ (bb_ BK737.out hb); have n2_ := am_ (bb_ BK738.out hb); have n3_ := am_ (below_step (hb3_ HB.out GE736.out GE737.out GE738.out) hb); clear BK736; clear BK737; clear BK738; clear HB; have BK736 := n0_; have BK737 := n1_; have BK738 := n2_; have HB := n3_; clear n0_ n1_ n2_ n3_; (try clear hb); (try clear hb2); (try clear hk); (try clear hi); have hcz18_0 := bc_ BK736.out 0 (.int .i64 a0_0) rfl; have hcz18_1 := bc_ BK736.out 1 (.int .i64 a0_1) rfl; have hfz18_0 := blk_frozen BK736.out 0; have hfz18_1 := blk_frozen BK736.out 1; have hcz19_0 := bc_ BK737.out 0 (.int .i64 a1_0) rfl; have hcz19_1 := bc_ BK737.out 1 (.int .i64 a1_1) rfl; have hfz19_0 := blk_frozen BK737.out 0; have hfz19_1 := blk_frozen BK737.out 1) | ((with_reducible refine gate_callee (f := 74) rfl ?_); refine goesL_ (some 25) rfl rfl Try.func74 (by kernel_rfl) rfl #[.int .i64 (wrap64 (a0_0 + a1_0)), .int .i64 (wrap64 (a0_1 + a1_1))] rfl arr_ ?_; (with_reducible refine (spec_l1Told.calls (wrap64 (a0_0 + a1_0)) (wrap64 (a0_1 + a1_1)) t741 t742 t743 _ A7.out).mono ?_); rintro e w20 ⟨rfl, hb⟩; refine ⟨_, rfl, ?_⟩; have n0_ := am_ (bb_ BK736.out hb); have n1_ := am_ (bb_ BK737.out hb); have n2_ := am_ (bb_ BK738.out hb); have n3_ := am_ (below_step (hb3_ HB.out GE736.out GE737.out GE738.out) hb); clear BK736; clear BK737; clear BK738; clear HB; have BK736 := n0_; have BK737 := n1_; have BK738 := n2_; have HB := n3_; clear n0_ n1_ n2_ n3_; (try clear hb); (try clear hb2); (try clear hk); (try clear hi); have hcz21_0 := bc_ BK738.out 0 (.int .i64 0) rfl; have hcz21_1 := bc_ BK738.out 1 (.int .i64 0) rfl; have hfz21_0 := blk_frozen BK738.out 0; have hfz21_1 := blk_frozen BK738.out 1))
      refine bodyPost_ret (results_ct rfl _ _ gb738 32 #[.int .i64 t741, .int .i64 t742] (0, 0) _ rfl (by (with_reducible repeat (first | refine blk_drewN ?_ _ | refine blk_drew ?_ | refine blk_alloc ?_ _)); refine blk_put (cs := #[.int .i64 t741, .int .i64 0]) ?_ 1 _ rfl; (with_reducible repeat (first | refine blk_drewN ?_ _ | refine blk_drew ?_ | refine blk_alloc ?_ _)); refine blk_put (cs := #[.int .i64 0, .int .i64 0]) ?_ 0 _ rfl; (with_reducible repeat (first | refine blk_drewN ?_ _ | refine blk_drew ?_ | refine blk_alloc ?_ _)); exact BK738.out) Try.underlying32 rfl (by kernel_rfl)) rfl ?_
      exact ⟨er_, hb3_ HB.out GE736.out GE737.out GE738.out⟩
    · replace c6 := Bool.eq_false_iff.mpr c6
      subst c6
      have H1 : (some (0, 0, false)) = some (r1, r2, r3) := by rw [if_neg (show ¬ (false = true) by decide)] at H; exact H
      clear H
      have H := H1
      clear H1
      simp only [Option.some.injEq, Prod.mk.injEq] at H
      obtain ⟨rfl, rfl, rfl⟩ := H
      go_enter Try.func83, Try.ntmps83
      go_wp2_with (first | ((with_reducible refine gate_dst (N := 2) rfl ?_); refine box_event ?hg (N := 2) ?hd (cs := #[.int .i64 a0_0, .int .i64 a0_1]) (t := 32) ?hr ?_; (case hd => rfl); (case hg => rfl); (case hr => first|(go_simp;done)|(go_simp;rfl)); intro gb736 hg w22 hbox hb; have n0_ := am_ (below_step (hb_ HB.out) hb); have n1_ := am_ (hbox); have n2_ := am_ (hy_ hg (hb_ HB.out) : w.heap.size ≤ gb736); have n3_ := am_ (hy_ hg (hb_ HB.out) : w.heap.size ≤ gb736); clear HB; have HB := n0_; have BK736 := n1_; have GW736 := n2_; have GE736 := n3_; clear n0_ n1_ n2_ n3_; clear hb hbox hg) | ((with_reducible refine gate_dst (N := 3) rfl ?_); refine box_event ?hg (N := 3) ?hd (cs := #[.int .i64 a1_0, .int .i64 a1_1]) (t := 32) ?hr ?_; (case hd => rfl); (case hg => rfl); (case hr => first|(go_simp;done)|(go_simp;rfl)); intro gb737 hg w23 hbox hb; have n0_ := am_ (bb_ BK736.out hb); have n1_ := am_ (below_step (hb1_ HB.out GE736.out) hb); have n2_ := am_ (hbox); have n3_ := am_ (hy_ hg (hb1_ HB.out GE736.out) : w.heap.size ≤ gb737); have n4_ := am_ (hy_ hg (hb1_ HB.out GE736.out) : w.heap.size ≤ gb737); have n5_ := am_ ((bl_ hg BK736.out : gb736 ≠ gb737)); have n6_ := am_ ((bg_ hg BK736.out : gb737 ≠ gb736)); clear BK736; clear HB; have BK736 := n0_; have HB := n1_; have BK737 := n2_; have GW737 := n3_; have GE737 := n4_; have NB736_737 := n5_; have NB737_736 := n6_; clear n0_ n1_ n2_ n3_ n4_ n5_ n6_; clear hb hbox hg) | ((with_reducible refine gate_dst (N := 4) rfl ?_); refine box_event ?hg (N := 4) ?hd (cs := #[.int .i64 0, .int .i64 0]) (t := 32) ?hr ?_; (case hd => rfl); (case hg => rfl); (case hr => first|(go_simp;done)|(go_simp;rfl)); intro gb738 hg w24 hbox hb; have n0_ := am_ (bb_ BK736.out hb); have n1_ := am_ (bb_ BK737.out hb); have n2_ := am_ (below_step (hb2_ HB.out GE736.out GE737.out) hb); have n3_ := am_ (hbox); have n4_ := am_ (hy_ hg (hb2_ HB.out GE736.out GE737.out) : w.heap.size ≤ gb738); have n5_ := am_ (hy_ hg (hb2_ HB.out GE736.out GE737.out) : w.heap.size ≤ gb738); have n6_ := am_ ((bl_ hg BK736.out : gb736 ≠ gb738)); have n7_ := am_ ((bg_ hg BK736.out : gb738 ≠ gb736)); have n8_ := am_ ((bl_ hg BK737.out : gb737 ≠ gb738)); have n9_ := am_ ((bg_ hg BK737.out : gb738 ≠ gb737)); clear BK736; clear BK737; clear HB; have BK736 := n0_; have BK737 := n1_; have HB := n2_; have BK738 := n3_; have GW738 := n4_; have GE738 := n5_; have NB736_738 := n6_; have NB738_736 := n7_; have NB737_738 := n8_; have NB738_737 := n9_; clear n0_ n1_ n2_ n3_ n4_ n5_ n6_ n7_ n8_ n9_; clear hb hbox hg; have hnb25 := NB736_737.out; have hnc25 := NB737_736.out; have hnb26 := NB736_738.out; have hnc26 := NB738_736.out; have hcz27_0 := bc_ BK736.out 0 (.int .i64 a0_0) rfl; have hcz27_1 := bc_ BK736.out 1 (.int .i64 a0_1) rfl; have hfz27_0 := blk_frozen BK736.out 0; have hfz27_1 := blk_frozen BK736.out 1) | ((with_reducible refine gate_callee (f := 36) rfl ?_); refine goesL_ (some 7) rfl rfl Try.func36 (by kernel_rfl) rfl #[.agg #[.int .i64 a0_0, .int .i64 a0_1]] rfl arr_ ?_; (with_reducible refine (spec_IvalOk.calls a0_0 a0_1 true _ A3.out).mono ?_); rintro e w28 ⟨rfl, hb⟩; refine ⟨_, rfl, ?_⟩; have n0_ := am_ (bb_ BK736.out hb); have n1_ := am_ (bb_ BK737.out hb); have n2_ := am_ (bb_ BK738.out hb); have n3_ := am_ (below_step (hb3_ HB.out GE736.out GE737.out GE738.out) hb); clear BK736; clear BK737; clear BK738; clear HB; have BK736 := n0_; have BK737 := n1_; have BK738 := n2_; have HB := n3_; clear n0_ n1_ n2_ n3_; (try clear hb); (try clear hb2); (try clear hk); (try clear hi); have hnb29 := NB737_738.out; have hnc29 := NB738_737.out; have hcz30_0 := bc_ BK737.out 0 (.int .i64 a1_0) rfl; have hcz30_1 := bc_ BK737.out 1 (.int .i64 a1_1) rfl; have hfz30_0 := blk_frozen BK737.out 0; have hfz30_1 := blk_frozen BK737.out 1) | (go_at_call 36; (with_reducible refine (spec_IvalOk.calls a1_0 a1_1 false _ A5.out).mono ?_); rintro e w31 ⟨rfl, hb⟩; have n0_ := am_ (bb_ BK736.out hb); have n1_ := am_ (bb_ BK737.out hb); have n2_ := am_ (bb_ BK738.out hb); have n3_ := am_ (below_step (hb3_ HB.out GE736.out GE737.out GE738.out) hb); clear BK736; clear BK737; clear BK738; clear HB; have BK736 := n0_; have BK737 := n1_; have BK738 := n2_; have HB := n3_; clear n0_ n1_ n2_ n3_; (try clear hb); (try clear hb2); (try clear hk); (try clear hi); have hcz32_0 := bc_ BK738.out 0 (.int .i64 0) rfl; have hcz32_1 := bc_ BK738.out 1 (.int .i64 0) rfl; have hfz32_0 := blk_frozen BK738.out 0; have hfz32_1 := blk_frozen BK738.out 1))
      refine bodyPost_ret (results_ct rfl _ _ gb738 32 #[.int .i64 0, .int .i64 0] (0, 0) _ rfl (by (with_reducible repeat (first | refine blk_drewN ?_ _ | refine blk_drew ?_ | refine blk_alloc ?_ _)); refine blk_put (cs := #[.int .i64 0, .int .i64 0]) ?_ 1 _ rfl; (with_reducible repeat (first | refine blk_drewN ?_ _ | refine blk_drew ?_ | refine blk_alloc ?_ _)); refine blk_put (cs := #[.int .i64 0, .int .i64 0]) ?_ 0 _ rfl; (with_reducible repeat (first | refine blk_drewN ?_ _ | refine blk_drew ?_ | refine blk_alloc ?_ _)); exact BK738.out) Try.underlying32 rfl (by kernel_rfl)) rfl ?_
      exact ⟨er_, hb3_ HB.out GE736.out GE737.out GE738.out⟩
  · replace c4 := Bool.eq_false_iff.mpr c4
    subst c4
    have H1 : (some (0, 0, false)) = some (r1, r2, r3) := by rw [if_neg (show ¬ (false = true) by decide)] at H; exact H
    clear H
    have H := H1
    clear H1
    simp only [Option.some.injEq, Prod.mk.injEq] at H
    obtain ⟨rfl, rfl, rfl⟩ := H
    go_enter Try.func83, Try.ntmps83
    go_wp2_with (first | ((with_reducible refine gate_dst (N := 2) rfl ?_); refine box_event ?hg (N := 2) ?hd (cs := #[.int .i64 a0_0, .int .i64 a0_1]) (t := 32) ?hr ?_; (case hd => rfl); (case hg => rfl); (case hr => first|(go_simp;done)|(go_simp;rfl)); intro gb736 hg w33 hbox hb; have n0_ := am_ (below_step (hb_ HB.out) hb); have n1_ := am_ (hbox); have n2_ := am_ (hy_ hg (hb_ HB.out) : w.heap.size ≤ gb736); have n3_ := am_ (hy_ hg (hb_ HB.out) : w.heap.size ≤ gb736); clear HB; have HB := n0_; have BK736 := n1_; have GW736 := n2_; have GE736 := n3_; clear n0_ n1_ n2_ n3_; clear hb hbox hg) | ((with_reducible refine gate_dst (N := 3) rfl ?_); refine box_event ?hg (N := 3) ?hd (cs := #[.int .i64 a1_0, .int .i64 a1_1]) (t := 32) ?hr ?_; (case hd => rfl); (case hg => rfl); (case hr => first|(go_simp;done)|(go_simp;rfl)); intro gb737 hg w34 hbox hb; have n0_ := am_ (bb_ BK736.out hb); have n1_ := am_ (below_step (hb1_ HB.out GE736.out) hb); have n2_ := am_ (hbox); have n3_ := am_ (hy_ hg (hb1_ HB.out GE736.out) : w.heap.size ≤ gb737); have n4_ := am_ (hy_ hg (hb1_ HB.out GE736.out) : w.heap.size ≤ gb737); have n5_ := am_ ((bl_ hg BK736.out : gb736 ≠ gb737)); have n6_ := am_ ((bg_ hg BK736.out : gb737 ≠ gb736)); clear BK736; clear HB; have BK736 := n0_; have HB := n1_; have BK737 := n2_; have GW737 := n3_; have GE737 := n4_; have NB736_737 := n5_; have NB737_736 := n6_; clear n0_ n1_ n2_ n3_ n4_ n5_ n6_; clear hb hbox hg) | ((with_reducible refine gate_dst (N := 4) rfl ?_); refine box_event ?hg (N := 4) ?hd (cs := #[.int .i64 0, .int .i64 0]) (t := 32) ?hr ?_; (case hd => rfl); (case hg => rfl); (case hr => first|(go_simp;done)|(go_simp;rfl)); intro gb738 hg w35 hbox hb; have n0_ := am_ (bb_ BK736.out hb); have n1_ := am_ (bb_ BK737.out hb); have n2_ := am_ (below_step (hb2_ HB.out GE736.out GE737.out) hb); have n3_ := am_ (hbox); have n4_ := am_ (hy_ hg (hb2_ HB.out GE736.out GE737.out) : w.heap.size ≤ gb738); have n5_ := am_ (hy_ hg (hb2_ HB.out GE736.out GE737.out) : w.heap.size ≤ gb738); have n6_ := am_ ((bl_ hg BK736.out : gb736 ≠ gb738)); have n7_ := am_ ((bg_ hg BK736.out : gb738 ≠ gb736)); have n8_ := am_ ((bl_ hg BK737.out : gb737 ≠ gb738)); have n9_ := am_ ((bg_ hg BK737.out : gb738 ≠ gb737)); clear BK736; clear BK737; clear HB; have BK736 := n0_; have BK737 := n1_; have HB := n2_; have BK738 := n3_; have GW738 := n4_; have GE738 := n5_; have NB736_738 := n6_; have NB738_736 := n7_; have NB737_738 := n8_; have NB738_737 := n9_; clear n0_ n1_ n2_ n3_ n4_ n5_ n6_ n7_ n8_ n9_; clear hb hbox hg; have hnb36 := NB736_737.out; have hnc36 := NB737_736.out; have hnb37 := NB736_738.out; have hnc37 := NB738_736.out; have hcz38_0 := bc_ BK736.out 0 (.int .i64 a0_0) rfl; have hcz38_1 := bc_ BK736.out 1 (.int .i64 a0_1) rfl; have hfz38_0 := blk_frozen BK736.out 0; have hfz38_1 := blk_frozen BK736.out 1) | ((with_reducible refine gate_callee (f := 36) rfl ?_); refine goesL_ (some 7) rfl rfl Try.func36 (by kernel_rfl) rfl #[.agg #[.int .i64 a0_0, .int .i64 a0_1]] rfl arr_ ?_; (with_reducible refine (spec_IvalOk.calls a0_0 a0_1 false _ A3.out).mono ?_); rintro e w39 ⟨rfl, hb⟩; refine ⟨_, rfl, ?_⟩; have n0_ := am_ (bb_ BK736.out hb); have n1_ := am_ (bb_ BK737.out hb); have n2_ := am_ (bb_ BK738.out hb); have n3_ := am_ (below_step (hb3_ HB.out GE736.out GE737.out GE738.out) hb); clear BK736; clear BK737; clear BK738; clear HB; have BK736 := n0_; have BK737 := n1_; have BK738 := n2_; have HB := n3_; clear n0_ n1_ n2_ n3_; (try clear hb); (try clear hb2); (try clear hk); (try clear hi); have hnb40 := NB738_737.out; have hnc40 := NB737_738.out; have hcz41_0 := bc_ BK738.out 0 (.int .i64 0) rfl; have hcz41_1 := bc_ BK738.out 1 (.int .i64 0) rfl; have hfz41_0 := blk_frozen BK738.out 0; have hfz41_1 := blk_frozen BK738.out 1))
    refine bodyPost_ret (results_ct rfl _ _ gb738 32 #[.int .i64 0, .int .i64 0] (0, 0) _ rfl (by (with_reducible repeat (first | refine blk_drewN ?_ _ | refine blk_drew ?_ | refine blk_alloc ?_ _)); refine blk_put (cs := #[.int .i64 0, .int .i64 0]) ?_ 1 _ rfl; (with_reducible repeat (first | refine blk_drewN ?_ _ | refine blk_drew ?_ | refine blk_alloc ?_ _)); refine blk_put (cs := #[.int .i64 0, .int .i64 0]) ?_ 0 _ rfl; (with_reducible repeat (first | refine blk_drewN ?_ _ | refine blk_drew ?_ | refine blk_alloc ?_ _)); exact BK738.out) Try.underlying32 rfl (by kernel_rfl)) rfl ?_
    exact ⟨er_, hb3_ HB.out GE736.out GE737.out GE738.out⟩
end Go.Proofs.Ytejohmompmjhnaa.P
