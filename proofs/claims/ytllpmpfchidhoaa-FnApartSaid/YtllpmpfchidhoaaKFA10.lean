/- Texts of the seat's proofs, part 10: functions of the program told as plain functions, with their contracts, and what is shown of them. No condition. -/
import Derived.Test.YtllpmpfchidhoaaUKFA
import Derived.Test.YtllpmpfchidhoaaKFA1
import Derived.Test.YtllpmpfchidhoaaKFA2
import Derived.Test.YtllpmpfchidhoaaKFA3
import Derived.Test.YtllpmpfchidhoaaKFA6
import Derived.Test.YtllpmpfchidhoaaKFA9
import Derived.Test.YtllpmpfchidhoaaKFA7
import Derived.Test.YtllpmpfchidhoaaKFA8
import Derived.Test.YtllpmpfchidhoaaKFA4
set_option linter.unusedVariables false
set_option linter.unusedSimpArgs false
namespace Go.Proofs.Ytllpmpfchidhoaa.P
open Go.RowKit Go.Proofs.YtllpmpfchidhoaaW.PrintWords Go.Proofs.YtllpmpfchidhoaaW.PrintLast Go.Proofs.YtllpmpfchidhoaaW.PrintMore
attribute [local go_sem] max2_int min2_int max_two min_two max_three min_three max_four min_four
set_option linter.unusedVariables false
set_option linter.unusedSimpArgs false
end Go.Proofs.Ytllpmpfchidhoaa.P

set_option linter.unusedVariables false
set_option linter.unusedSimpArgs false
namespace Go.Proofs.Ytllpmpfchidhoaa.C
open Go.RowKit Go.Proofs.Ytllpmpfchidhoaa.P Go.Proofs.Ytllpmpfchidhoaa.G Go.Proofs.YtllpmpfchidhoaaW.PrintWords
end Go.Proofs.Ytllpmpfchidhoaa.C

set_option linter.unusedVariables false
set_option linter.unusedSimpArgs false
namespace Go.Proofs.Ytllpmpfchidhoaa.C
open Go.RowKit Go.Proofs.Ytllpmpfchidhoaa.P Go.Proofs.Ytllpmpfchidhoaa.G Go.Proofs.YtllpmpfchidhoaaW.PrintWords
end Go.Proofs.Ytllpmpfchidhoaa.C

namespace Go.Proofs.Ytllpmpfchidhoaa.P
open Go.RowKit Go.Proofs.YtllpmpfchidhoaaW.PrintWords Go.Proofs.YtllpmpfchidhoaaW.PrintLast Go.Proofs.YtllpmpfchidhoaaW.PrintMore
attribute [local go_sem] max2_int min2_int max_two min_two max_three min_three max_four min_four
set_option linter.unusedVariables false
set_option linter.unusedSimpArgs false
end Go.Proofs.Ytllpmpfchidhoaa.P

namespace Go.Proofs.Ytllpmpfchidhoaa.C
open Go.RowKit Go.Proofs.Ytllpmpfchidhoaa.P Go.Proofs.Ytllpmpfchidhoaa.G Go.Proofs.YtllpmpfchidhoaaW.PrintWords
theorem l1MaxO (a b : Int) : spec_l1Max.f a b = some (mx a b) := by
  unfold spec_l1Max.f mx
  by_cases h : a > b
  · rw [if_pos h]; congr 1; split <;> omega
  · rw [if_neg h]; congr 1; split <;> omega
theorem dOccurrence (s : List Int) (hs : s.length ≤ 1048576) (k : Nat) (hk : 1050300 ≤ k) : ∃ st gap l i q, spec_DrawOccurrence.f k s = some (st, gap, l, i, q) ∧ l.length ≤ 13 := by
  unfold spec_DrawOccurrence.f
  obtain ⟨z0, e0, a0⟩ := dNew s hs k (by omega)
  rw [e0, Option.bind_some]
  obtain ⟨st, gap, l, p1, z1, e1, a1, hl⟩ := dAny s 0 z0 a0 k (by omega)
  rw [e1, Option.bind_some]
  dsimp only
  obtain ⟨i, p2, z2, e2, a2, _⟩ := dBelow s p1 z1 (wrap64 ((l.length : Int) + 1)) a1
  rw [e2, Option.bind_some]
  obtain ⟨j, p3, z3, e3, a3, _⟩ := dBelow s p2 z2 20 a2
  rw [e3, Option.bind_some]
  obtain ⟨q, p4, z4, e4, a4, _⟩ := dBelow s p3 z3 9 a3
  rw [e4, Option.bind_some]
  obtain ⟨o, p5, z5, e5, a5⟩ := dOnce s p4 z4 8 a4
  rw [e5, Option.bind_some]
  dsimp only
  cases o with
  | false => rw [if_neg (by decide)]; exact ⟨_, _, _, _, _, rfl, hl⟩
  | true =>
    rw [if_pos rfl, sRoundOf st gap l (by omega) k (by omega), Option.bind_some, l1MaxO, Option.bind_some]
    have hm : mx (roundOf st gap l) 1 ≠ 0 := by unfold mx; split <;> omega
    rw [if_neg hm, Option.bind_some, l1MaxO, Option.bind_some, if_neg hm]
    generalize mx (roundOf st gap l) 1 = r
    generalize wrap64 (Int.tdiv (1000000000000 : Int) r) = y1
    generalize wrap64 (y1 - 1) = y2
    generalize wrap64 (i - wrap64 (Int.tdiv j 19)) = y3
    obtain ⟨v, p6, z6, e6, a6, _⟩ := dPick s p5 z5 [(-1), 1000000000000, 1000000000001, 9223372036854775807, y1, y2] a5 (by simp) (by simp)
    rw [e6, Option.bind_some]; exact ⟨_, _, _, _, _, rfl, hl⟩
theorem u8_wf {y : Int} (h : (Lit.int .u8 y).wf = true) : 0 ≤ y ∧ y ≤ 255 := by
  have h' : (decide (IntKind.u8.min ≤ y) && decide (y ≤ IntKind.u8.max)) = true := h
  rw [Bool.and_eq_true, decide_eq_true_iff, decide_eq_true_iff] at h'
  have e1 : IntKind.u8.min = 0 := by decide
  have e2 : IntKind.u8.max = 255 := by decide
  omega
theorem dAt (s : List Int) (hs : s.length ≤ 1048576) (hb : ∀ y ∈ s, (Lit.int .u8 y).wf = true) (i : Int) (hi : 0 ≤ i ∧ i ≤ 1000000) : ∃ v, laws_at.f s i = some v ∧ 0 ≤ v ∧ v ≤ 255 := by
  unfold laws_at.f
  by_cases h : i < (s.length : Int)
  · rw [if_pos h, if_pos hi.1]
    obtain ⟨n, rfl⟩ := Int.eq_ofNat_of_zero_le hi.1
    have hn : n < s.length := by omega
    have e : rd s (n : Int) = s[n] := by unfold rd; simp [List.getD, hn]
    have hw := u8_wf (hb s[n] (List.getElem_mem hn))
    rw [e, wrap_id (by omega) (by omega)]
    exact ⟨_, rfl, by omega⟩
  · rw [if_neg h, wrap_id (x := i * 7) (by omega) (by omega), wrap_id (by omega) (by omega)]
    refine ⟨_, rfl, Int.tmod_nonneg _ (by omega), ?_⟩
    have := Int.tmod_lt_of_pos (i * 7 + (s.length : Int)) (show (0 : Int) < 256 by omega)
    omega
theorem dBig (s : List Int) : laws_big.f s = some (decide ((s.length : Int) > 1048576)) := rfl
theorem pick_in {v n : Int} (hv : 0 ≤ v) (hn : 0 < n) : 0 ≤ Int.tmod v n ∧ Int.tmod v n < n := ⟨Int.tmod_nonneg _ hv, Int.tmod_lt_of_pos _ hn⟩
end Go.Proofs.Ytllpmpfchidhoaa.C
namespace Go.Proofs.Ytllpmpfchidhoaa.C
open Go.RowKit Go.Proofs.Ytllpmpfchidhoaa.P Go.Proofs.Ytllpmpfchidhoaa.G
theorem slotAt_of {st gap : Int} {l : List Sl} {t : Int} (h : planOk st gap l = true) (ht : 0 ≤ t ∧ t ≤ 1000000000000) (hs : st ≤ t) (i : Nat) (hi : i < l.length)
    (ho : (occ st gap l i ((t - st) / round gap l)).2.2 = true) (h1 : (occ st gap l i ((t - st) / round gap l)).1 ≤ t) (h2 : t < (occ st gap l i ((t - st) / round gap l)).2.1) :
    slotAt st gap l t = ((i : Int), (t - st) / round gap l, true) := by
  have hin := (occ_in h ht hs i hi ho).1 ⟨h1, h2⟩
  unfold slotAt
  rw [if_pos (by rw [h, (timeOk_iff t).2 ht, decide_eq_true hs]; rfl)]
  unfold slotAtQ
  rw [found_some hi hin (fun j hj => by
    cases hjq : inS gap l ((t - st) % round gap l) j with
    | false => rfl
    | true => have := inS_one h (by omega) hi hjq hin; omega), if_pos ho]
theorem occurrence_nat {st gap : Int} {l : List Sl} (h : planOk st gap l = true) (i : Nat) (hi : i < l.length) (q : Int) : occurrence st gap l (i : Int) q = occ st gap l i q := by
  unfold occurrence
  have : isSlot st gap l (i : Int) = true := by rw [isSlot_iff]; exact ⟨h, by omega, by omega⟩
  rw [if_pos this, show ((i : Int)).toNat = i by omega]
theorem occ_true {st gap : Int} {l : List Sl} {i : Nat} (hi : i < l.length) {q : Int} (h : (occ st gap l i q).2.2 = true) :
    (0 ≤ q ∧ q ≤ 1000000000000 / round gap l) ∧ occ st gap l i q = (st + q * round gap l + upto gap l i, st + q * round gap l + upto gap l i + l[i].f1, true) ∧ st + q * round gap l + upto gap l i + l[i].f1 ≤ 1000000000000 := by
  by_cases hq : 0 ≤ q ∧ q ≤ 1000000000000 / round gap l
  · rw [occ_eq hi hq] at h ⊢
    have := ivalT_ok h
    have hv := this.2
    rw [ivalOk_iff] at hv
    exact ⟨hq, this.1, by omega⟩
  · unfold occ at h; rw [if_neg hq] at h; cases h
theorem occurrence_true {st gap : Int} {l : List Sl} {i q : Int} (h : (occurrence st gap l i q).2.2 = true) :
    planOk st gap l = true ∧ ∃ n : Nat, ∃ hn : n < l.length, i = (n : Int) ∧ (0 ≤ q ∧ q ≤ 1000000000000 / round gap l) ∧ occurrence st gap l i q = (st + q * round gap l + upto gap l n, st + q * round gap l + upto gap l n + l[n].f1, true) ∧ st + q * round gap l + upto gap l n + l[n].f1 ≤ 1000000000000 ∧ (occ st gap l n q).2.2 = true := by
  cases hs : isSlot st gap l i with
  | false => unfold occurrence at h; rw [hs] at h; cases h
  | true =>
    have hs' := hs
    rw [isSlot_iff] at hs'
    obtain ⟨n, rfl⟩ := Int.eq_ofNat_of_zero_le hs'.2.1
    have hn : n < l.length := by omega
    rw [occurrence_nat hs'.1 n hn] at h ⊢
    have := occ_true hn h
    exact ⟨hs'.1, n, hn, rfl, this.1, this.2.1, this.2.2, h⟩
theorem time_in {st gap : Int} {l : List Sl} (h : planOk st gap l = true) (i : Nat) (hi : i < l.length) (q t : Int) (hq : 0 ≤ q) (h1 : st + q * round gap l + upto gap l i ≤ t) (h2 : t < st + q * round gap l + upto gap l i + l[i].f1) :
    st ≤ t ∧ (t - st) / round gap l = q ∧ (t - st) % round gap l = t - st - q * round gap l ∧ inS gap l ((t - st) % round gap l) i = true := by
  have hr := round_bd h
  have hu := upto_bd h i (by omega)
  have hm := upto_mono h i l.length hi (Nat.le_refl _)
  have hp := h
  rw [planOk_iff] at hp
  have hm' : upto gap l i + l[i].f1 + gap ≤ round gap l := hm
  have hqr : 0 ≤ q * round gap l := Int.mul_nonneg hq (by omega)
  have key := (Int.ediv_emod_unique (a := t - st) (b := round gap l) (q := q) (r := t - st - q * round gap l) (by omega)).2 ⟨by rw [Int.mul_comm]; omega, by omega, by omega⟩
  refine ⟨by omega, key.1, key.2, ?_⟩
  rw [inS_iff hi, key.2]
  omega
theorem slotAt_time {st gap : Int} {l : List Sl} (h : planOk st gap l = true) (i : Nat) (hi : i < l.length) (q t : Int) (ho : (occ st gap l i q).2.2 = true) (h1 : (occ st gap l i q).1 ≤ t) (h2 : t < (occ st gap l i q).2.1) : slotAt st gap l t = ((i : Int), q, true) := by
  obtain ⟨hq, e, hb⟩ := occ_true hi ho
  have h1' := h1; have h2' := h2
  rw [e] at h1' h2'
  simp only at h1' h2'
  obtain ⟨g1, g2, _, _⟩ := time_in h i hi q t hq.1 h1' h2'
  have hp := h
  rw [planOk_iff] at hp
  have := slotAt_of h (t := t) (by omega) g1 i hi (by rw [g2]; exact ho) (by rw [g2]; exact h1) (by rw [g2]; exact h2)
  rw [this, g2]
theorem apart {st gap : Int} {l : List Sl} (h : planOk st gap l = true) (i j : Nat) (hi : i < l.length) (hj : j < l.length) (q m : Int) (h1 : (occ st gap l i q).2.2 = true) (h2 : (occ st gap l j m).2.2 = true)
    (c1 : (occ st gap l i q).1 < (occ st gap l j m).2.1) (c2 : (occ st gap l j m).1 < (occ st gap l i q).2.1) : i = j ∧ q = m := by
  have b1 := occ_true hi h1
  have b2 := occ_true hj h2
  have hp := h
  rw [planOk_iff] at hp
  have s1 := slotsOk_get hp.2.2.2 i hi
  have s2 := slotsOk_get hp.2.2.2 j hj
  have key : ∀ t, (occ st gap l i q).1 ≤ t → t < (occ st gap l i q).2.1 → (occ st gap l j m).1 ≤ t → t < (occ st gap l j m).2.1 → i = j ∧ q = m := by
    intro t a1 a2 a3 a4
    have e1 := slotAt_time h i hi q t h1 a1 a2
    have e2 := slotAt_time h j hj m t h2 a3 a4
    rw [e1] at e2
    injection e2 with e3 e4
    injection e4 with e5 _
    exact ⟨by omega, e5⟩
  rcases Int.le_total (occ st gap l i q).1 (occ st gap l j m).1 with c | c
  · exact key (occ st gap l j m).1 c c2 (Int.le_refl _) (by rw [b2.2.1]; simp only; omega)
  · exact key (occ st gap l i q).1 (Int.le_refl _) (by rw [b1.2.1]; simp only; omega) c c1
end Go.Proofs.Ytllpmpfchidhoaa.C
