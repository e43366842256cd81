/- Texts of the seat's proofs, part 11: functions of the program told as plain functions, with their contracts, and what is shown of them. No condition. -/
import Derived.Test.YtllpmpfchidhoaaUKFGE
import Derived.Test.YtllpmpfchidhoaaKFGE1
import Derived.Test.YtllpmpfchidhoaaKFGE8
import Derived.Test.YtllpmpfchidhoaaKFGE2
import Derived.Test.YtllpmpfchidhoaaKFGE3
import Derived.Test.YtllpmpfchidhoaaKFGE7
import Derived.Test.YtllpmpfchidhoaaKFGE5
import Derived.Test.YtllpmpfchidhoaaKFGE6
import Derived.Test.YtllpmpfchidhoaaKFGE10
import Derived.Test.YtllpmpfchidhoaaKFGE4
import Derived.Test.YtllpmpfchidhoaaKFGE9
import Derived.Deep.Slices
import Derived.ProofKit
import Derived.OpenShut
set_option linter.unusedVariables false
set_option linter.unusedSimpArgs false
namespace Go.Proofs.Ytllpmpfchidhoaa.P
open Go.RowKit Go.Proofs.YtllpmpfchidhoaaW.PrintWords Go.Proofs.YtllpmpfchidhoaaW.PrintLast Go.Proofs.YtllpmpfchidhoaaW.PrintMore
attribute [local go_sem] max2_int min2_int max_two min_two max_three min_three max_four min_four
set_option linter.unusedVariables false
set_option linter.unusedSimpArgs false
end Go.Proofs.Ytllpmpfchidhoaa.P

namespace Go.Proofs.Ytllpmpfchidhoaa.P
open Go.RowKit Go.Proofs.YtllpmpfchidhoaaW.PrintWords Go.Proofs.YtllpmpfchidhoaaW.PrintLast Go.Proofs.YtllpmpfchidhoaaW.PrintMore
attribute [local go_sem] max2_int min2_int max_two min_two max_three min_three max_four min_four
set_option linter.unusedVariables false
set_option linter.unusedSimpArgs false
end Go.Proofs.Ytllpmpfchidhoaa.P

namespace Go.Proofs.Ytllpmpfchidhoaa.P
open Go.RowKit Go.Proofs.YtllpmpfchidhoaaW.PrintWords Go.Proofs.YtllpmpfchidhoaaW.PrintLast Go.Proofs.YtllpmpfchidhoaaW.PrintMore
attribute [local go_sem] max2_int min2_int max_two min_two max_three min_three max_four min_four
set_option linter.unusedVariables false
set_option linter.unusedSimpArgs false
def impl_down.f (a0 : Int) (a1 : Int) : Option (Int) := if a1 = 0 then (none) else (if (Int.tmod a0 a1) < 0 then (some (wrap64 ((wrap64 (Int.tdiv a0 a1)) - 1))) else (some (wrap64 (Int.tdiv a0 a1))))
end Go.Proofs.Ytllpmpfchidhoaa.P
namespace Go.Proofs.Ytllpmpfchidhoaa.P
open Go.RowKit Go.Proofs.YtllpmpfchidhoaaW.PrintWords Go.Proofs.YtllpmpfchidhoaaW.PrintLast Go.Proofs.YtllpmpfchidhoaaW.PrintMore
attribute [local go_sem] max2_int min2_int max_two min_two max_three min_three max_four min_four
set_option linter.unusedVariables false
set_option linter.unusedSimpArgs false
end Go.Proofs.Ytllpmpfchidhoaa.P

namespace Go.Proofs.Ytllpmpfchidhoaa.P
open Go.RowKit Go.Proofs.YtllpmpfchidhoaaW.PrintWords Go.Proofs.YtllpmpfchidhoaaW.PrintLast Go.Proofs.YtllpmpfchidhoaaW.PrintMore
attribute [local go_sem] max2_int min2_int max_two min_two max_three min_three max_four min_four
set_option linter.unusedVariables false
set_option linter.unusedSimpArgs false
end Go.Proofs.Ytllpmpfchidhoaa.P

namespace Go.Proofs.Ytllpmpfchidhoaa.P
open Go.RowKit Go.Proofs.YtllpmpfchidhoaaW.PrintWords Go.Proofs.YtllpmpfchidhoaaW.PrintLast Go.Proofs.YtllpmpfchidhoaaW.PrintMore
attribute [local go_sem] max2_int min2_int max_two min_two max_three min_three max_four min_four
set_option linter.unusedVariables false
set_option linter.unusedSimpArgs false
end Go.Proofs.Ytllpmpfchidhoaa.P

namespace Go.Proofs.Ytllpmpfchidhoaa.C
open Go.RowKit Go.Proofs.Ytllpmpfchidhoaa.P Go.Proofs.Ytllpmpfchidhoaa.G
def driftOk (n d : Int) : Bool := decide (1 ≤ d ∧ d ≤ 1000000) && decide (0 ≤ n ∧ n ≤ d) && decide (2 * n ≤ d)
theorem driftOk_iff (n d : Int) : driftOk n d = true ↔ 1 ≤ d ∧ d ≤ 1000000 ∧ 0 ≤ n ∧ 2 * n ≤ d := by
  unfold driftOk; simp; omega
theorem sDriftOk (n d : Int) : spec_DriftOk.f n d = some (driftOk n d) := by
  unfold spec_DriftOk.f driftOk; simp only [l1In, Option.bind_some]
  by_cases h1 : (1 ≤ d ∧ d ≤ 1000000)
  · by_cases h2 : (0 ≤ n ∧ n ≤ d)
    · rw [wrap_id (by omega) (by omega)]; simp [h1, h2]
    · simp [h1, h2]
  · simp [h1]
theorem iDriftOk (n d : Int) : impl_DriftOk.f n d = some (driftOk n d) := by
  unfold impl_DriftOk.f driftOk; simp only [in_, Option.bind_some]
  by_cases h1 : (1 ≤ d ∧ d ≤ 1000000)
  · by_cases h2 : (0 ≤ n ∧ n ≤ d)
    · rw [wrap_id (by omega) (by omega)]; simp [h1, h2]
    · simp [h1, h2]
  · simp [h1]
theorem mul_bd {x d : Int} (hx : 0 ≤ x ∧ x ≤ 1000000000000) (hd : 0 ≤ d ∧ d ≤ 1000000) : 0 ≤ x * d ∧ x * d ≤ 1000000000000000000 := by
  refine ⟨Int.mul_nonneg hx.1 hd.1, ?_⟩
  calc x * d ≤ 1000000000000 * d := Int.mul_le_mul_of_nonneg_right hx.2 hd.1
    _ ≤ 1000000000000 * 1000000 := Int.mul_le_mul_of_nonneg_left hd.2 (by omega)
theorem ediv_bd {a b : Int} (ha : 0 ≤ a) (hb : 1 ≤ b) : 0 ≤ a / b ∧ a / b ≤ a :=
  ⟨Int.ediv_nonneg ha (by omega), Int.ediv_le_self _ ha⟩
theorem down_eq {a b : Int} (hb : 1 ≤ b) : (if Int.tmod a b < 0 then Int.tdiv a b - 1 else Int.tdiv a b) = a / b := by
  have h1 := Int.mul_tdiv_add_tmod a b; have h2 := Int.mul_ediv_add_emod a b; have h3 := Int.emod_nonneg a (by omega : b ≠ 0); have h4 := Int.emod_lt_of_pos a (by omega : 0 < b); have h5 := Int.tmod_lt_of_pos a (by omega : 0 < b); rcases Int.lt_or_le a 0 with h | h
  · have h6 : -b < Int.tmod a b := by
      have := Int.tmod_lt_of_pos (-a) (by omega : 0 < b); rw [Int.neg_tmod] at this; omega
    split
    · have e : b * (Int.tdiv a b - 1) + (Int.tmod a b + b) = b * (a / b) + a % b := by rw [Int.mul_sub, Int.mul_one]; omega
      have : b * (Int.tdiv a b - 1 - a / b) = a % b - (Int.tmod a b + b) := by rw [Int.mul_sub]; omega
      rcases Int.lt_trichotomy (Int.tdiv a b - 1 - a / b) 0 with c | c | c
      · have : b * (Int.tdiv a b - 1 - a / b) ≤ b * (-1) := Int.mul_le_mul_of_nonneg_left (by omega) (by omega); omega
      · omega
      · have : b * 1 ≤ b * (Int.tdiv a b - 1 - a / b) := Int.mul_le_mul_of_nonneg_left (by omega) (by omega); omega
    · rename_i h7
      have : b * (Int.tdiv a b - a / b) = a % b - Int.tmod a b := by rw [Int.mul_sub]; omega
      rcases Int.lt_trichotomy (Int.tdiv a b - a / b) 0 with c | c | c
      · have : b * (Int.tdiv a b - a / b) ≤ b * (-1) := Int.mul_le_mul_of_nonneg_left (by omega) (by omega); omega
      · omega
      · have : b * 1 ≤ b * (Int.tdiv a b - a / b) := Int.mul_le_mul_of_nonneg_left (by omega) (by omega); omega
  · rw [if_neg (by have := Int.tmod_nonneg b h; omega), Int.tdiv_eq_ediv_of_nonneg h]
theorem iDown {a b : Int} (hb : 1 ≤ b) (ha : -1000000000000000000 ≤ a ∧ a ≤ 1000000000000000000) : impl_down.f a b = some (a / b) := by
  have hd := down_eq (a := a) hb; have hq : -1000000000000000000 ≤ a / b ∧ a / b ≤ 1000000000000000000 := by
    rcases Int.lt_or_le a 0 with h | h
    · have h2 := Int.mul_ediv_add_emod a b; have h3 := Int.emod_nonneg a (by omega : b ≠ 0); have h4 : a / b < 0 := Int.ediv_neg_of_neg_of_pos h (by omega); have h5 : a ≤ a / b := by
        have e : b * (a / b) ≤ 1 * (a / b) := by
          have := Int.mul_le_mul_of_nonpos_right hb (by omega : a / b ≤ 0); exact this
        have h6 := Int.emod_lt_of_pos a (by omega : 0 < b); rcases Int.lt_or_le (a / b) a with c | c
        · have : b * (a / b) ≤ b * (a - 1) := Int.mul_le_mul_of_nonneg_left (by omega) (by omega); have : b * (a - 1) = b * a - b := by rw [Int.mul_sub, Int.mul_one]
          have : b * a ≤ 1 * a := Int.mul_le_mul_of_nonpos_right hb (by omega); omega
        · exact c
      omega
    · have := ediv_bd h hb; omega
  unfold impl_down.f
  rw [if_neg (by omega)]; by_cases h : Int.tmod a b < 0
  · rw [if_pos h] at hd ⊢; rw [wrap_id (x := Int.tdiv a b) (by omega) (by omega), hd, wrap_id (by omega) (by omega)]
  · rw [if_neg h] at hd ⊢; rw [hd, wrap_id (by omega) (by omega)]
theorem sDown {a b : Int} (hb : 1 ≤ b) (ha : -1000000000000000000 ≤ a ∧ a ≤ 1000000000000000000) : spec_l1Down.f a b = some (a / b) := iDown hb ha
def mostTime (n d x : Int) : Int × Bool := if (driftOk n d && timeOk x) = true then (if x * d / (d - n) ≤ 1000000000000 then (x * d / (d - n), true) else (0, false)) else (0, false)
def leastTime (n d x : Int) : Int × Bool := if (driftOk n d && timeOk x) = true then (if -(-(x * d) / (d + n)) ≤ 1000000000000 then (-(-(x * d) / (d + n)), true) else (0, false)) else (0, false)
theorem told (x : Int) : spec_l2Told.f x = some (if x ≤ 1000000000000 then (x, true) else (0, false)) := by
  unfold spec_l2Told.f; by_cases h : x > 1000000000000
  · rw [if_pos h, if_neg (by omega)]
  · rw [if_neg h, if_pos (by omega)]
theorem sMostTime (k : Nat) (n d x : Int) (hk : 1 ≤ k) : spec_MostTime.f k n d x = some (mostTime n d x) := by
  obtain ⟨k, rfl⟩ : ∃ j, k = j + 1 := ⟨k - 1, by omega⟩; unfold spec_MostTime.f mostTime; simp only [sDriftOk, l2Time, Option.bind_some, spec_MostTime.j0]
  change (if driftOk n d = true then (if (!timeOk x) = true then _ else _) else _) = _
  cases h1 : driftOk n d with
  | false => simp
  | true =>
    cases h2 : timeOk x with
    | false => simp
    | true =>
      rw [driftOk_iff] at h1; rw [timeOk_iff] at h2; have hm := mul_bd h2 (d := d) (by omega); simp only [Bool.not_true, Bool.false_eq_true, if_false, if_true, Bool.and_true]
      rw [wrap_id (x := x * d) (by omega) (by omega), wrap_id (x := d - n) (by omega) (by omega), sDown (by omega) (by omega)]; simp only [Option.bind_some, told]
theorem iBounded (n d x y : Int) : impl_bounded.f n d x y = some (if (driftOk n d && timeOk x) = true then (if y ≤ 1000000000000 then (y, true) else (0, false)) else (0, false)) := by
  unfold impl_bounded.f; simp only [iDriftOk, isTime, Option.bind_some]
  change (if driftOk n d = true then (if timeOk x = true then _ else _) else _) = _
  cases h1 : driftOk n d <;> cases h2 : timeOk x <;> simp
  split <;> rfl
theorem iMostTime (n d x : Int) : impl_MostTime.f n d x = some (mostTime n d x) := by
  unfold impl_MostTime.f mostTime; simp only [iDriftOk, Option.bind_some, iBounded]
  cases h1 : driftOk n d with
  | false => simp
  | true =>
    have h1' := h1; rw [driftOk_iff] at h1'; rw [if_pos rfl, wrap_id (x := d - n) (by omega) (by omega), if_neg (by omega)]
    cases h2 : timeOk x with
    | false => simp
    | true =>
      rw [timeOk_iff] at h2; have hm := mul_bd h2 (d := d) (by omega); have hq := ediv_bd hm.1 (b := d - n) (by omega); rw [wrap_id (x := x * d) (by omega) (by omega), Int.tdiv_eq_ediv_of_nonneg hm.1, wrap_id (by omega) (by omega)]
def spread (a b x y : Int) : Int × Int × Bool := if ivalOk a b && decide (0 ≤ x ∧ x ≤ 2000000000000) && decide (0 ≤ y ∧ y ≤ 2000000000000) then ivalT (a - x) (b + y) else (0, 0, false)
theorem sSpread (a b x y : Int) : spec_Spread.f a b x y = some (spread a b x y) := by
  unfold spec_Spread.f spread; simp only [sIvalOk, l1In, Option.bind_some]
  cases h1 : ivalOk a b with
  | false => simp
  | true =>
    rw [ivalOk_iff] at h1; by_cases h2 : (0 ≤ x ∧ x ≤ 2000000000000)
    · by_cases h3 : (0 ≤ y ∧ y ≤ 2000000000000)
      · rw [wrap_id (by omega) (by omega), wrap_id (by omega) (by omega)]; simp [h2, h3, sTold]
      · simp [h2, h3]
    · simp [h2]
theorem iSpread (a b x y : Int) : impl_Spread.f a b x y = some (spread a b x y) := by
  unfold impl_Spread.f spread; simp only [iIvalOk, in_, Option.bind_some]
  cases h1 : ivalOk a b with
  | false => simp
  | true =>
    rw [ivalOk_iff] at h1; by_cases h2 : (0 ≤ x ∧ x ≤ 2000000000000)
    · by_cases h3 : (0 ≤ y ∧ y ≤ 2000000000000)
      · rw [wrap_id (by omega) (by omega), wrap_id (by omega) (by omega)]; simp [h2, h3, iIval]
      · simp [h2, h3]
    · simp [h2]
def gateSpan (a b n d x : Int) : Int × Int × Bool := if (mostTime n d x).2 = true then (if x < 1 then (0, 0, false) else spread a b 0 (mostTime n d x).1) else (0, 0, false)
theorem sGateSpan (k : Nat) (a b n d x : Int) (hk : 1 ≤ k) : spec_GateSpan.f k a b n d x = some (gateSpan a b n d x) := by
  unfold spec_GateSpan.f gateSpan; simp only [sMostTime k n d x hk, sSpread, Option.bind_some]
  split
  · split <;> rfl
  · rfl
theorem iGateSpan (a b n d x : Int) : impl_GateSpan.f a b n d x = some (gateSpan a b n d x) := by
  unfold impl_GateSpan.f gateSpan; simp only [iMostTime n d x, iSpread, Option.bind_some]
  split
  · split <;> rfl
  · rfl
end Go.Proofs.Ytllpmpfchidhoaa.C
namespace Go.Proofs.Ytllpmpfchidhoaa.C
open Go.RowKit Go.Proofs.Ytllpmpfchidhoaa.P Go.Proofs.Ytllpmpfchidhoaa.G Go.Proofs.YtllpmpfchidhoaaW.PrintWords
theorem dDrift6 (s : List Int) (p z : Int) (h : At s p) : ∃ n d p' z', spec_l6DrawDrift.f s p z = some (n, d, p', z') ∧ At s p' := by
  unfold spec_l6DrawDrift.f
  obtain ⟨n, d, p1, z1, e1, a1⟩ := dDrift2 s p z h; rw [e1]; simp only [Option.bind_some, sDriftOk]; split
  · exact ⟨_, _, _, _, rfl, a1⟩
  · obtain ⟨o, p4, z4, e4, a4⟩ := dOnce s p1 z1 4 a1; rw [e4]; simp only [Option.bind_some]; split
    · exact ⟨_, _, _, _, rfl, a4⟩
    · exact ⟨_, _, _, _, rfl, a4⟩
theorem dTimeJ (s : List Int) (p z a b : Int) (bad : Bool) (h : At s p) (k : Nat) (hk : 1 ≤ k) : ∃ v p' z', spec_l13DrawTime.j0 k bad s p z a b = some (v, p', z') ∧ At s p' := by
  obtain ⟨k, rfl⟩ : ∃ j, k = j + 1 := ⟨k - 1, by omega⟩; simp only [spec_l13DrawTime.j0]
  split
  · obtain ⟨v, p1, z1, e1, a1, _⟩ := dCount s p z h; rw [e1]; exact ⟨_, _, _, rfl, a1⟩
  · obtain ⟨v, p1, z1, e1, a1, _⟩ := dPick s p z [a, b, wrap64 (a - 1), wrap64 (b - 1), wrap64 (Int.tdiv (wrap64 (a + b)) 2)] h (by simp) (by simp); rw [e1]; exact ⟨_, _, _, rfl, a1⟩
theorem dTime (s : List Int) (p z : Int) (h : At s p) (st gap : Int) (l : List Sl) (hl : l.length ≤ 1048576) (k : Nat) (hk : 1050200 ≤ k) : ∃ v p' z', spec_l13DrawTime.f k s p z st gap l = some (v, p', z') ∧ At s p' := by
  unfold spec_l13DrawTime.f
  obtain ⟨i, p1, z1, e1, a1, _⟩ := dBelow s p z (l.length : Int) h; rw [e1]; simp only [Option.bind_some]; obtain ⟨q, p2, z2, e2, a2, _⟩ := dBelow s p1 z1 5 a1; rw [e2]; simp only [Option.bind_some]; rw [sOccurrence st gap l hl i q k (by omega)]; simp only [Option.bind_some]; split
  · obtain ⟨o, p3, z3, e3, a3⟩ := dOnce s p2 z2 6 a2; rw [e3]; simp only [Option.bind_some]; exact dTimeJ s p3 z3 _ _ _ a3 k (by omega)
  · exact dTimeJ s p2 z2 _ _ _ a2 k (by omega)
theorem dLong (s : List Int) (p z : Int) (h : At s p) : ∃ v p' z', spec_l14DrawLong.f s p z = some (v, p', z') ∧ At s p' := by
  unfold spec_l14DrawLong.f
  obtain ⟨o, p1, z1, e1, a1⟩ := dOnce s p z 15 h; rw [e1]; simp only [Option.bind_some]; split
  · obtain ⟨v, p2, z2, e2, a2, _⟩ := dCount s p1 z1 a1; rw [e2]; exact ⟨_, _, _, rfl, a2⟩
  · obtain ⟨v, p2, z2, e2, a2, _⟩ := dBelow s p1 z1 20 a1; rw [e2]; exact ⟨_, _, _, rfl, a2⟩
theorem dAsk1 (own : Int) (s : List Int) (p z : Int) (h : At s p) (st gap : Int) (l : List Sl) (n d a b : Int) (k : Nat) (hk : 1 ≤ k) : ∃ kn x o, spec_DrawGateAsk.j1 k own s p z st gap l n d a b = some (a, b, kn, n, d, x, st, gap, l, o) := by
  obtain ⟨k, rfl⟩ : ∃ j, k = j + 1 := ⟨k - 1, by omega⟩; simp only [spec_DrawGateAsk.j1]
  obtain ⟨o, p1, z1, e1, a1⟩ := dOnce s p z 25 h; rw [e1]; simp only [Option.bind_some]; split
  · obtain ⟨v, p2, z2, e2, a2, _⟩ := dPick s p1 z1 [(-1), 8] a1 (by simp) (by simp); rw [e2]; simp only [Option.bind_some]; obtain ⟨o2, p3, z3, e3, a3⟩ := dOnce s p2 z2 9 a2; rw [e3]; simp only [Option.bind_some]; obtain ⟨x, p4, z4, e4, a4⟩ := dLong s p3 z3 a3; rw [e4]; exact ⟨_, _, _, rfl⟩
  · obtain ⟨o2, p3, z3, e3, a3⟩ := dOnce s p1 z1 9 a1; rw [e3]; simp only [Option.bind_some]; obtain ⟨x, p4, z4, e4, a4⟩ := dLong s p3 z3 a3; rw [e4]; exact ⟨_, _, _, rfl⟩
theorem dGateAsk (s : List Int) (hs : s.length ≤ 1048576) (k : Nat) (hk : 1050300 ≤ k) : ∃ a b kn n d x st gap l o, spec_DrawGateAsk.f k s = some (a, b, kn, n, d, x, st, gap, l, o) ∧ l.length ≤ 13 := by
  obtain ⟨k, rfl⟩ : ∃ j, k = j + 1 := ⟨k - 1, by omega⟩; unfold spec_DrawGateAsk.f
  obtain ⟨z0, e0, a0⟩ := dNew s hs (k + 1) (by omega); rw [e0]; simp only [Option.bind_some]; obtain ⟨st, gap, l, p1, z1, e1, a1, hl⟩ := dAny s 0 z0 a0 (k + 1) (by omega); rw [e1]; simp only [Option.bind_some]; obtain ⟨n, d, p2, z2, e2, a2⟩ := dDrift6 s p1 z1 a1; rw [e2]; simp only [Option.bind_some]; obtain ⟨t, p3, z3, e3, a3⟩ := dTime s p2 z2 a2 st gap l (by omega) (k + 1) (by omega); rw [e3]; simp only [Option.bind_some]; have hm : ∃ m, spec_l1Min.f t 1000000000000 = some m := by unfold spec_l1Min.f; split <;> exact ⟨_, rfl⟩
  obtain ⟨m, em⟩ := hm; rw [em]; simp only [Option.bind_some]; obtain ⟨u, p4, z4, e4, a4, _⟩ := dBelow s p3 z3 12 a3; rw [e4]; simp only [Option.bind_some]; obtain ⟨v, p5, z5, e5, a5, _⟩ := dBelow s p4 z4 4 a4; rw [e5]; simp only [Option.bind_some]; rw [sSlotAt st gap l (by omega) t (k + 1) (by omega)]; simp only [Option.bind_some]
  cases hs : (slotAt st gap l t).2.2 with
  | true =>
    rw [if_pos rfl]; obtain ⟨o, p6, z6, e6, a6⟩ := dOnce s p5 z5 6 a5; rw [e6]; simp only [Option.bind_some, spec_DrawGateAsk.j0]; obtain ⟨i, hi, ei, _⟩ := slotAt_in hs; rw [ei, if_pos (show (0 : Int) ≤ i by omega), if_pos (show (i : Int) < l.length by omega)]; split
    · obtain ⟨kn, x, o2, e7⟩ := dAsk1 ((rd_T42 l (i : Int)).f0) s p6 z6 a6 st gap l n d t (wrap64 (m + u)) k (by omega); rw [e7]; exact ⟨_, _, _, _, _, _, _, _, _, _, rfl, hl⟩
    · obtain ⟨kn, x, o2, e7⟩ := dAsk1 v s p6 z6 a6 st gap l n d t (wrap64 (m + u)) k (by omega); rw [e7]; exact ⟨_, _, _, _, _, _, _, _, _, _, rfl, hl⟩
  | false =>
    rw [if_neg (by decide)]; simp only [spec_DrawGateAsk.j0]
    rw [if_neg (by decide)]; obtain ⟨kn, x, o2, e7⟩ := dAsk1 v s p5 z5 a5 st gap l n d t (wrap64 (m + u)) k (by omega); rw [e7]; exact ⟨_, _, _, _, _, _, _, _, _, _, rfl, hl⟩
end Go.Proofs.Ytllpmpfchidhoaa.C
namespace Go.Proofs.Ytllpmpfchidhoaa.P
open Go.RowKit Go.Proofs.YtllpmpfchidhoaaW.PrintWords Go.Proofs.YtllpmpfchidhoaaW.PrintLast Go.Proofs.YtllpmpfchidhoaaW.PrintMore
attribute [local go_sem] max2_int min2_int max_two min_two max_three min_three max_four min_four
set_option linter.unusedVariables false
set_option linter.unusedSimpArgs false
end Go.Proofs.Ytllpmpfchidhoaa.P

namespace Go.Proofs.Ytllpmpfchidhoaa.C
open Go.RowKit Go.Proofs.Ytllpmpfchidhoaa.P Go.Proofs.Ytllpmpfchidhoaa.G Go.Proofs.YtllpmpfchidhoaaW.PrintWords
def gateOk (a b : Int) (kn : Bool) (n d x st gap : Int) (l : List Sl) (own : Int) : Bool := (!kn || ivalOk a b) && driftOk n d && decide (1 ≤ x ∧ x ≤ 1000000000000) && planOk st gap l && decide (0 ≤ own ∧ own ≤ 7)
def gateIn (a b : Int) (kn : Bool) (n d x st gap : Int) (l : List Sl) (own : Int) : Int × Int × Int :=
  if kn = true ∧ (gateSpan a b n d x).2.2 = true ∧ (inSlot st gap l own (gateSpan a b n d x).1 (gateSpan a b n d x).2.1).2.2 = true
  then ((inSlot st gap l own (gateSpan a b n d x).1 (gateSpan a b n d x).2.1).1, (inSlot st gap l own (gateSpan a b n d x).1 (gateSpan a b n d x).2.1).2.1, 0) else (0, 0, 2)
def gateAsk (a b : Int) (kn : Bool) (n d x st gap : Int) (l : List Sl) (own : Int) : Int × Int × Int :=
  if gateOk a b kn n d x st gap l own = true then gateIn a b kn n d x st gap l own else (0, 0, 1)
theorem sAskJ (a b : Int) (kn bad : Bool) (n d x st gap : Int) (l : List Sl) (hl : l.length ≤ 1048576) (own : Int) (k : Nat) (hk : 1050202 ≤ k) :
    spec_GateAsk.j0 k kn x own bad a b n d st gap l = some (if bad = true then (0, 0, 1) else gateIn a b kn n d x st gap l own) := by
  obtain ⟨k, rfl⟩ : ∃ j, k = j + 2 := ⟨k - 2, by omega⟩; simp only [spec_GateAsk.j0]
  rw [sGateSpan (k + 1) a b n d x (by omega)]; simp only [Option.bind_some, spec_GateAsk.j1]
  rw [sInSlot st gap l hl own _ _ k (by omega)]; simp only [Option.bind_some]
  unfold gateIn
  cases bad with
  | true => simp
  | false =>
    cases kn with
    | false => simp
    | true =>
      cases (gateSpan a b n d x).2.2 with
      | false => simp
      | true =>
        cases (inSlot st gap l own (gateSpan a b n d x).1 (gateSpan a b n d x).2.1).2.2 <;> simp
theorem iAskJ (a b : Int) (kn bad : Bool) (n d x st gap : Int) (l : List Sl) (hl : l.length ≤ 1048576) (own : Int) (k : Nat) (hk : 1050202 ≤ k) :
    impl_GateAsk.j0 k kn x own bad a b n d st gap l = some (if bad = true then (0, 0, 1) else gateIn a b kn n d x st gap l own) := by
  obtain ⟨k, rfl⟩ : ∃ j, k = j + 2 := ⟨k - 2, by omega⟩; simp only [impl_GateAsk.j0]
  rw [iGateSpan a b n d x]; simp only [Option.bind_some, impl_GateAsk.j1]
  rw [iInSlot st gap l hl own _ _ k (by omega)]; simp only [Option.bind_some]
  unfold gateIn
  cases bad with
  | true => simp
  | false =>
    cases kn with
    | false => simp
    | true =>
      cases (gateSpan a b n d x).2.2 with
      | false => simp
      | true =>
        cases (inSlot st gap l own (gateSpan a b n d x).1 (gateSpan a b n d x).2.1).2.2 <;> simp
theorem sGateAsk (a b : Int) (kn : Bool) (n d x st gap : Int) (l : List Sl) (hl : l.length ≤ 1048576) (own : Int) (k : Nat) (hk : 1050202 ≤ k) :
    spec_GateAsk.f k a b kn n d x st gap l own = some (gateAsk a b kn n d x st gap l own) := by
  unfold spec_GateAsk.f gateAsk gateOk
  simp only [sIvalOk, sDriftOk, l1In, sPlanOk st gap l hl k (by omega), l4Node, Option.bind_some, sAskJ _ _ _ _ _ _ _ _ _ l hl _ k hk]
  cases kn <;> cases ivalOk a b <;> cases driftOk n d <;> cases decide (1 ≤ x ∧ x ≤ 1000000000000) <;> cases planOk st gap l <;> cases decide (0 ≤ own ∧ own ≤ 7) <;> simp
theorem iGateAsk (a b : Int) (kn : Bool) (n d x st gap : Int) (l : List Sl) (hl : l.length ≤ 1048576) (own : Int) (k : Nat) (hk : 1050202 ≤ k) :
    impl_GateAsk.f k a b kn n d x st gap l own = some (gateAsk a b kn n d x st gap l own) := by
  unfold impl_GateAsk.f gateAsk gateOk
  simp only [iIvalOk, iDriftOk, in_, iPlanOk st gap l hl k (by omega), isNode, Option.bind_some, iAskJ _ _ _ _ _ _ _ _ _ l hl _ k hk]
  cases kn <;> cases ivalOk a b <;> cases driftOk n d <;> cases decide (1 ≤ x ∧ x ≤ 1000000000000) <;> cases planOk st gap l <;> cases decide (0 ≤ own ∧ own ≤ 7) <;> simp
end Go.Proofs.Ytllpmpfchidhoaa.C
namespace Go.Proofs.Ytllpmpfchidhoaa.P
open Go.RowKit Go.Proofs.YtllpmpfchidhoaaW.PrintWords Go.Proofs.YtllpmpfchidhoaaW.PrintLast Go.Proofs.YtllpmpfchidhoaaW.PrintMore
attribute [local go_sem] max2_int min2_int max_two min_two max_three min_three max_four min_four
set_option linter.unusedVariables false
set_option linter.unusedSimpArgs false
end Go.Proofs.Ytllpmpfchidhoaa.P

namespace Go.Proofs.Ytllpmpfchidhoaa.C
open Go.RowKit Go.Proofs.Ytllpmpfchidhoaa.P Go.Proofs.Ytllpmpfchidhoaa.G Go.Proofs.YtllpmpfchidhoaaW.PrintWords
theorem least_most {n d x : Int} (h : driftOk n d = true) (hx : timeOk x = true) (hm : (mostTime n d x).2 = true) : 0 ≤ (leastTime n d x).1 ∧ (leastTime n d x).1 ≤ x ∧ x ≤ (mostTime n d x).1 ∧ (mostTime n d x).1 ≤ 1000000000000 := by
  have h' := h; have hx' := hx; rw [driftOk_iff] at h'; rw [timeOk_iff] at hx'; have hb := mul_bd hx' (d := d) (by omega); have c1 : x ≤ x * d / (d - n) := by
    apply Int.le_ediv_of_mul_le (by omega)
    have : x * (d - n) ≤ x * d := Int.mul_le_mul_of_nonneg_left (by omega) hx'.1; exact this
  have c2 : -x ≤ -(x * d) / (d + n) := by
    apply Int.le_ediv_of_mul_le (by omega)
    have : x * d ≤ x * (d + n) := Int.mul_le_mul_of_nonneg_left (by omega) hx'.1; have e : -x * (d + n) = -(x * (d + n)) := Int.neg_mul _ _; omega
  have c3 : -(x * d) / (d + n) ≤ 0 := by
    rcases Int.lt_or_le 0 (-(x * d) / (d + n)) with c | c
    · have h2 := Int.mul_ediv_add_emod (-(x * d)) (d + n); have h3 := Int.emod_nonneg (-(x * d)) (by omega : d + n ≠ 0); have : (d + n) * 1 ≤ (d + n) * (-(x * d) / (d + n)) := Int.mul_le_mul_of_nonneg_left (by omega) (by omega); omega
    · exact c
  have hg : (driftOk n d && timeOk x) = true := by rw [h, hx]; rfl
  unfold mostTime at hm ⊢
  unfold leastTime
  rw [if_pos hg] at hm ⊢; rw [if_pos hg]; split at hm
  · rename_i hc
    rw [if_pos hc]; split
    · simp only; omega
    · simp only; omega
  · simp at hm
theorem if_true {P : Prop} [Decidable P] {u v : Int × Int × Bool} (h1 : (if P then u else v).2.2 = true) (h2 : v.2.2 = false) : P ∧ (if P then u else v) = u := by
  by_cases hp : P
  · exact ⟨hp, if_pos hp⟩
  · rw [if_neg hp, h2] at h1; cases h1
theorem inSlot_true {st gap : Int} {l : List Sl} {owner a b : Int} (h : (inSlot st gap l owner a b).2.2 = true) :
    ((slotAt st gap l a).2.2 = true ∧ (match l[(slotAt st gap l a).1.toNat]? with | some x => x.f0 | none => -1) = owner ∧ a ≤ b ∧ b ≤ (occurrence st gap l (slotAt st gap l a).1 (slotAt st gap l a).2.1).2.1) ∧ inSlot st gap l owner a b = ((slotAt st gap l a).1, (slotAt st gap l a).2.1, true) :=
  if_true h rfl
end Go.Proofs.Ytllpmpfchidhoaa.C
namespace Go.Proofs.Ytllpmpfchidhoaa.C
open Go.RowKit Go.Proofs.Ytllpmpfchidhoaa.P Go.Proofs.Ytllpmpfchidhoaa.G
theorem slotAt_of {st gap : Int} {l : List Sl} {t : Int} (h : planOk st gap l = true) (ht : 0 ≤ t ∧ t ≤ 1000000000000) (hs : st ≤ t) (i : Nat) (hi : i < l.length)
    (ho : (occ st gap l i ((t - st) / round gap l)).2.2 = true) (h1 : (occ st gap l i ((t - st) / round gap l)).1 ≤ t) (h2 : t < (occ st gap l i ((t - st) / round gap l)).2.1) :
    slotAt st gap l t = ((i : Int), (t - st) / round gap l, true) := by
  have hin := (occ_in h ht hs i hi ho).1 ⟨h1, h2⟩; unfold slotAt
  rw [if_pos (by rw [h, (timeOk_iff t).2 ht, decide_eq_true hs]; rfl)]; unfold slotAtQ
  rw [found_some hi hin (fun j hj => by
    cases hjq : inS gap l ((t - st) % round gap l) j with
    | false => rfl
    | true => have := inS_one h (by omega) hi hjq hin; omega), if_pos ho]
end Go.Proofs.Ytllpmpfchidhoaa.C
namespace Go.Proofs.Ytllpmpfchidhoaa.P
open Go.RowKit Go.Proofs.YtllpmpfchidhoaaW.PrintWords Go.Proofs.YtllpmpfchidhoaaW.PrintLast Go.Proofs.YtllpmpfchidhoaaW.PrintMore
attribute [local go_sem] max2_int min2_int max_two min_two max_three min_three max_four min_four
set_option linter.unusedVariables false
set_option linter.unusedSimpArgs false
end Go.Proofs.Ytllpmpfchidhoaa.P

namespace Go.Proofs.Ytllpmpfchidhoaa.C
open Go.RowKit Go.Proofs.Ytllpmpfchidhoaa.P Go.Proofs.Ytllpmpfchidhoaa.G Go.Proofs.YtllpmpfchidhoaaW.PrintWords
theorem dBig (s : List Int) : laws_big.f s = some (decide ((s.length : Int) > 1048576)) := rfl
end Go.Proofs.Ytllpmpfchidhoaa.C
namespace Go.Proofs.Ytllpmpfchidhoaa.G
open Go.RowKit Go.Proofs.YtllpmpfchidhoaaW.PrintWords
theorem fold_loopC {n : Nat} {σ ρ : Type} {L : Nat → σ → Int → Option ρ} {st : Nat → σ → σ} {fin : σ → ρ} {I : Nat → σ → Prop} {c : Nat}
    (hs : ∀ k i s, i < n → c ≤ k → I i s → L (k + 1) s (i : Int) = L k (st i s) ((i + 1 : Nat) : Int))
    (hI : ∀ i s, i < n → I i s → I (i + 1) (st i s))
    (he : ∀ k s, c ≤ k → I n s → L (k + 1) s (n : Int) = some (fin s)) :
    ∀ d i s k, i + d = n → I i s → d + c < k → L k s (i : Int) = some (fin ((List.range' i d).foldl (fun s i => st i s) s)) := by
  intro d; induction d with
  | zero =>
    intro i s k h hi hk; obtain ⟨k, rfl⟩ : ∃ m, k = m + 1 := ⟨k - 1, by omega⟩; obtain rfl : i = n := by omega
    rw [he k s (by omega) hi]; simp
  | succ d ih =>
    intro i s k h hi hk; obtain ⟨k, rfl⟩ : ∃ m, k = m + 1 := ⟨k - 1, by omega⟩; rw [hs k i s (by omega) (by omega) hi, ih (i + 1) (st i s) k (by omega) (hI i s (by omega) hi) (by omega), List.range'_succ]; rfl
end Go.Proofs.Ytllpmpfchidhoaa.G
namespace Go.Proofs.Ytllpmpfchidhoaa.V
open Go.RowKit Go.Proofs.Ytllpmpfchidhoaa.P Go.Proofs.Ytllpmpfchidhoaa.C Go.Proofs.Ytllpmpfchidhoaa.G
theorem orFold (Q : Nat → Bool) : ∀ (is : List Nat) (s : Bool), is.foldl (fun s i => s || Q i) s = (s || is.any Q) := by
  intro is; induction is with
  | nil => intro s; simp
  | cons i is ih => intro s; rw [List.foldl_cons, ih, List.any_cons, Bool.or_assoc]
def gexQ (st gap : Int) (l : List Sl) (own A B : Int) (i : Nat) : Bool :=
  (occurrence st gap l (i : Int) ((A - st) / round gap l)).2.2 && (match l[i]? with | some x => decide (x.f0 = own) | none => false) &&
    (decide ((occurrence st gap l (i : Int) ((A - st) / round gap l)).1 ≤ A) && decide (B ≤ (occurrence st gap l (i : Int) ((A - st) / round gap l)).2.1))
theorem gexL (kn : Bool) (own how : Int) (st gap : Int) (l : List Sl) (hp : planOk st gap l = true) (A B : Int) (hA : st ≤ A ∧ A ≤ 1000000000000) :
    laws_FnGateExact.l0 2000000 kn own how true false (round gap l) 0 st gap l A B = some ((how == 0) == (kn && (List.range l.length).any (gexQ st gap l own A B))) := by
  have hp' := hp; rw [planOk_iff] at hp'; have hr := round_bd hp; have hq := when_q hp (t := A) (by omega) hA.1; have := fold_loopC (n := l.length) (c := 1050100) (L := fun k (fd : Bool) i => laws_FnGateExact.l0 k kn own how true fd (round gap l) i st gap l A B)
    (st := fun i fd => fd || gexQ st gap l own A B i) (fin := fun fd => (how == 0) == (kn && fd)) (I := fun _ _ => True)
    (fun k i fd hi hk _ => ?_) (fun _ _ _ _ => trivial) (fun k fd hk _ => ?_) l.length 0 false 2000000 (by omega) trivial (by omega)
  · rw [orFold, Bool.false_or] at this; rw [List.range_eq_range']; exact this
  · simp only [laws_FnGateExact.l0]
    rw [if_pos (by omega), if_pos trivial, if_pos (by omega), if_neg (by omega), wrap_id (x := A - st) (by omega) (by omega), Int.tdiv_eq_ediv_of_nonneg (by omega), wrap_id (by omega) (by omega), sOccurrence st gap l (by omega) _ _ _ (by omega), Option.bind_some, wrap_succ hi (by omega)]
    cases fd with
    | true => rw [if_pos rfl, Bool.true_or]
    | false =>
      rw [if_neg (by decide), if_pos (show (0 : Int) ≤ (i : Int) by omega), rdSl l i hi]; unfold gexQ
      rw [List.getElem?_eq_getElem hi]; simp only [Bool.false_or]
      cases (occurrence st gap l (i : Int) ((A - st) / round gap l)).2.2 with
      | false => simp
      | true =>
        by_cases h1 : l[i].f0 = own
        · by_cases h2 : (occurrence st gap l (i : Int) ((A - st) / round gap l)).1 ≤ A
          · simp [h1, h2]
          · simp [h1, h2]
        · simp [h1]
  · simp only [laws_FnGateExact.l0]
    rw [if_neg (by omega)]
    cases kn <;> simp
theorem gexN (k : Nat) (kn : Bool) (own how r st gap : Int) (l : List Sl) (A B : Int) : laws_FnGateExact.l0 (k + 1) kn own how false false r 0 st gap l A B = some ((how == 0) == false) := by
  simp only [laws_FnGateExact.l0]
  cases kn <;> simp
theorem gexM (k : Nat) (kn : Bool) (own how r st gap : Int) (l : List Sl) (A B : Int) (h : ¬ A ≥ st) : laws_FnGateExact.l0 (k + 1) kn own how true false r 0 st gap l A B = some ((how == 0) == false) := by
  simp only [laws_FnGateExact.l0]
  rw [if_neg h]
  cases kn <;> simp
theorem FnGateExact : ∀ (l0 : List Int), (l0.length ≤ 9223372036854775807 ∧ ∀ y ∈ l0, (Lit.int .u8 y).wf = true) → ∃ k, laws_FnGateExact.f k l0 = some true := by
  intro s ⟨hs, hb⟩; refine ⟨2000000, ?_⟩
  unfold laws_FnGateExact.f
  rw [dBig, Option.bind_some]; by_cases hbig : (s.length : Int) > 1048576
  · rw [decide_eq_true hbig, if_pos rfl]
  rw [decide_eq_false hbig, if_neg (by decide)]; obtain ⟨a, b, kn, n, d, x, st, gap, l, own, e, hl⟩ := dGateAsk s (by omega) 2000000 (by omega); rw [e, Option.bind_some]; simp only
  rw [iGateAsk _ _ _ _ _ _ _ _ l (by omega) _ _ (by omega), Option.bind_some, sGateAsk _ _ _ _ _ _ _ _ l (by omega) _ _ (by omega), Option.bind_some, if_pos rfl]
  cases hg : gateOk a b kn n d x st gap l own with
  | false =>
    have : gateAsk a b kn n d x st gap l own = (0, 0, 1) := by unfold gateAsk; rw [hg]; simp
    rw [this, if_pos rfl]
  | true =>
    have hga : gateAsk a b kn n d x st gap l own = gateIn a b kn n d x st gap l own := by unfold gateAsk; rw [hg, if_pos rfl]
    rw [hga]; have hg' := hg; unfold gateOk at hg'
    simp only [Bool.and_eq_true, decide_eq_true_eq] at hg'
    obtain ⟨⟨⟨⟨h1, h2⟩, h3⟩, h4⟩, h5⟩ := hg'; have hp := h4; rw [planOk_iff] at hp; have hne : (gateIn a b kn n d x st gap l own).2.2 ≠ 1 := by unfold gateIn; split <;> simp
    rw [if_neg hne, sGateSpan _ a b n d x (by omega), Option.bind_some, sRoundOf' h4 _ (by omega), Option.bind_some]
    cases kn with
    | false =>
      have h2' : (gateIn a b false n d x st gap l own).2.2 = 2 := by unfold gateIn; rw [if_neg (by simp)]
      rw [h2']
      cases hok : (gateSpan a b n d x).2.2 with
      | false =>
        rw [show (2000000 : Nat) = 1999999 + 1 by omega, gexN]; rfl
      | true =>
        by_cases hA : (gateSpan a b n d x).1 ≥ st
        · by_cases hA2 : (gateSpan a b n d x).1 ≤ 1000000000000
          · rw [gexL _ _ _ _ _ _ h4 _ _ ⟨hA, hA2⟩]; simp
          · exfalso
            unfold gateSpan at hok hA2
            split at hok
            · rename_i hm
              rw [if_pos hm] at hA2; split at hok
              · simp at hok
              · rename_i hx
                rw [if_neg hx] at hA2; unfold spread at hok hA2
                split at hok
                · rename_i hc
                  rw [if_pos hc] at hA2; have := ivalT_ok hok; have hv := this.2; rw [ivalOk_iff] at hv; rw [this.1] at hA2; simp only at hA2
                  omega
                · simp at hok
            · simp at hok
        · rw [show (2000000 : Nat) = 1999999 + 1 by omega, gexM _ _ _ _ _ _ _ _ _ _ hA]; rfl
    | true =>
      have hab : ivalOk a b = true := by simpa using h1
      have hx : timeOk x = true := by rw [timeOk_iff]; omega
      cases hok : (gateSpan a b n d x).2.2 with
      | false =>
        have h2' : (gateIn a b true n d x st gap l own).2.2 = 2 := by unfold gateIn; rw [if_neg (by rw [hok]; simp)]
        rw [h2', show (2000000 : Nat) = 1999999 + 1 by omega, gexN]; rfl
      | true =>
        have hm : (mostTime n d x).2 = true := by
          unfold gateSpan at hok; split at hok
          · rename_i h; exact h
          · simp at hok
        have hlm := least_most h2 hx hm; have hsp : gateSpan a b n d x = (a, b + (mostTime n d x).1, true) := by
          unfold gateSpan at hok ⊢
          rw [if_pos hm, if_neg (by omega)] at hok ⊢; unfold spread at hok ⊢
          split at hok
          · rename_i hc
            rw [if_pos hc]; rw [(ivalT_ok hok).1, Int.sub_zero]
          · simp at hok
        have hiv := hab; rw [ivalOk_iff] at hiv; rw [hsp]; simp only
        by_cases hA : st ≤ a
        · rw [gexL _ _ _ _ _ _ h4 _ _ ⟨hA, by omega⟩]; have hq := when_q h4 (t := a) (by omega) hA; have hocc : ∀ i : Nat, i < l.length → occurrence st gap l (i : Int) ((a - st) / round gap l) = occ st gap l i ((a - st) / round gap l) := by
            intro i hi; unfold occurrence
            have : isSlot st gap l (i : Int) = true := by rw [isSlot_iff]; exact ⟨h4, by omega, by omega⟩
            rw [if_pos this, show ((i : Int)).toNat = i by omega]
          by_cases hin : (inSlot st gap l own a (b + (mostTime n d x).1)).2.2 = true
          · have h0 : (gateIn a b true n d x st gap l own).2.2 = 0 := by unfold gateIn; rw [if_pos ⟨rfl, hok, by rw [hsp]; exact hin⟩]
            rw [h0]; obtain ⟨⟨i1, i2, i3, i4⟩, i5⟩ := inSlot_true hin; obtain ⟨i, hil, e1, e2, e3, e4, e5, e6, e7⟩ := slotAt_in i1; have e8 : ((i : Int)).toNat = i := by omega
            rw [e1, e8, List.getElem?_eq_getElem hil] at i2; simp only at i2
            rw [e1, e5, hocc i hil] at i4; have hlo := (occ_in h4 (by omega) hA i hil e7).2 e6; have : (List.range l.length).any (gexQ st gap l own a (b + (mostTime n d x).1)) = true := by
              rw [List.any_eq_true]; refine ⟨i, List.mem_range.2 hil, ?_⟩
              unfold gexQ
              rw [hocc i hil, e7, List.getElem?_eq_getElem hil]; simp [i2, hlo.1, i4]
            rw [this]; rfl
          · have h2' : (gateIn a b true n d x st gap l own).2.2 = 2 := by unfold gateIn; rw [if_neg (by rw [hsp]; simp only [hin]; simp)]
            rw [h2']; have : (List.range l.length).any (gexQ st gap l own a (b + (mostTime n d x).1)) = false := by
              rw [List.any_eq_false]; intro i hi hqi; have hil := List.mem_range.1 hi; unfold gexQ at hqi
              rw [hocc i hil, List.getElem?_eq_getElem hil] at hqi; simp only [Bool.and_eq_true, decide_eq_true_eq] at hqi
              obtain ⟨⟨q1, q2⟩, q3, q4⟩ := hqi; have hsa := slotAt_of h4 (t := a) (by omega) hA i hil q1 q3 (by omega); apply hin
              unfold inSlot
              rw [hsa]; simp only
              rw [show ((i : Int)).toNat = i by omega, List.getElem?_eq_getElem hil, hocc i hil, if_pos ⟨trivial, q2, by omega, q4⟩]
            rw [this]; rfl
        · have hin : ¬ (inSlot st gap l own a (b + (mostTime n d x).1)).2.2 = true := by
            intro hin; obtain ⟨⟨i1, _⟩, _⟩ := inSlot_true hin; obtain ⟨i, hil, e1, e2, e3, e4, _⟩ := slotAt_in i1; exact hA e4
          have h2' : (gateIn a b true n d x st gap l own).2.2 = 2 := by unfold gateIn; rw [if_neg (by rw [hsp]; simp only [hin]; simp)]
          rw [h2', show (2000000 : Nat) = 1999999 + 1 by omega, gexM _ _ _ _ _ _ _ _ _ _ hA]; rfl
end Go.Proofs.Ytllpmpfchidhoaa.V
namespace Go.Proofs.Ytllpmpfchidhoaa.Args
open Go.ChangeShapes Go.WideShapes Go.Deep Go.Proofs.YtllpmpfchidhoaaW.PrintWords
def Opens (P : Program) (t : TypeId) {α : Type} (d : Kd α) (B : α → Prop) : Prop :=
  ∀ {H : Type} {enc : TypeId × Value → H} {w : World} {base : Nat} {spare : Nat → Bool} {held : Bool} {fuel : Nat} {cs : List Value} {x : DataW H × List MemPlace},
    DataW.trod enc P w base spare held fuel t cs = some x → ∃ a, d.K w a cs ∧ B a
theorem open_row {H : Type} {enc : TypeId × Value → H} {P : Program} {w : World} {base : Nat} {spare : Nat → Bool} {held : Bool} {fuel : Nat} {t e : TypeId} {c : Value} {x : DataW H × List MemPlace} {α : Type} {d : Kd α} {B : α → Prop} (z : α)
    (ht : P.underlying t = some (.slice e)) (hsz : P.cellsOf e = d.sz) (he : Opens P e d B) (h : DataW.trod enc P w base spare held fuel t [c] = some x) :
    ∃ A cap l, c = .slice A l.length cap ∧ Kd.C d w A l.length l ∧ l.length ≤ cap ∧ l.length ≤ 9223372036854775807 ∧ ∀ y ∈ l, B y := by
  haveI : Inhabited α := ⟨z⟩
  rcases open_slice ht h with ⟨hc, _⟩ | ⟨a, len, cap, m, n, D, Pl, hc, _, hl, hm, hmm, _, hx⟩
  · obtain rfl := List.head_eq_of_cons_eq hc; exact ⟨none, 0, [], rfl, Kd.C_nil _ _, Nat.le_refl _, by simp, fun y hy => by cases hy⟩
  · obtain rfl := List.head_eq_of_cons_eq hc; have hlm : len ≤ m := by rw [hmm]; split <;> omega
    obtain ⟨f, hf⟩ := choose_lt (α := α) (n := len) (p := fun i y => (∃ c', c'.length = d.sz ∧ d.K w y c' ∧ ∀ k u, c'[k]? = some u → w.cell? (a.add (i * d.sz + k)) = some u) ∧ B y) (fun i hi => by
      obtain ⟨cs', h1, h2⟩ := hx i (by omega); obtain ⟨y, hk, hb⟩ := he h2; refine ⟨y, ⟨cs', d.K_len hk, hk, fun k u hu => ?_⟩, hb⟩
      obtain ⟨_, hlen, hcell⟩ := World.cells?_some h1; have hk2 : k < cs'.length := (List.getElem?_eq_some_iff.1 hu).1; have := hcell k (by omega); rw [hsz, Addr.add_add] at this; rw [this, hu])
    have hmax : len ≤ 9223372036854775807 := by unfold maxLen at hm; omega
    refine ⟨some a, cap, (List.range len).map f, by simp, ⟨by simp, by simpa using hmax, fun _ => ⟨a, rfl, fun j p hj => ?_⟩⟩, by simpa using hl, by simpa using hmax, fun y hy => ?_⟩
    · have hj2 : j < len := by simpa using (List.getElem?_eq_some_iff.1 hj).1
      rw [List.getElem?_map, List.getElem?_range hj2] at hj; obtain rfl := Option.some.inj hj; exact (hf j hj2).1
    · obtain ⟨j, hj, rfl⟩ := List.mem_map.1 hy; exact (hf j (List.mem_range.1 hj)).2
theorem opens_int {P : Program} {t : TypeId} {k : IntKind} (ht : P.underlying t = some (.int k)) : Opens P t (Kd.int k) (fun x => (Lit.int k x).wf = true) := by
  intro H enc w base spare held fuel cs x h; obtain ⟨n, rfl, _, hw⟩ := DataW.trod_int ht h; exact ⟨n, rfl, hw⟩
end Go.Proofs.Ytllpmpfchidhoaa.Args
