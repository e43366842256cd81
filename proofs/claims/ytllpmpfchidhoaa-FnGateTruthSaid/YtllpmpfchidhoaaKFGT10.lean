/- Texts of the seat's proofs, part 10: functions of the program told as plain functions, with their contracts, and what is shown of them. No condition. -/
import Derived.Test.YtllpmpfchidhoaaUKFGT
import Derived.Test.YtllpmpfchidhoaaKFGT1
import Derived.Test.YtllpmpfchidhoaaKFGT6
import Derived.Test.YtllpmpfchidhoaaKFGT5
import Derived.Test.YtllpmpfchidhoaaKFGT3
import Derived.Test.YtllpmpfchidhoaaKFGT4
import Derived.Test.YtllpmpfchidhoaaKFGT9
import Derived.Test.YtllpmpfchidhoaaKFGT7
import Derived.Test.YtllpmpfchidhoaaKFGT8
import Derived.Test.YtllpmpfchidhoaaKFGT2
set_option linter.unusedVariables false
set_option linter.unusedSimpArgs false
namespace Go.Proofs.Ytllpmpfchidhoaa.P
open Go.RowKit Go.Proofs.YtllpmpfchidhoaaW.PrintWords Go.Proofs.YtllpmpfchidhoaaW.PrintLast Go.Proofs.YtllpmpfchidhoaaW.PrintMore
attribute [local go_sem] max2_int min2_int max_two min_two max_three min_three max_four min_four
set_option linter.unusedVariables false
set_option linter.unusedSimpArgs false
end Go.Proofs.Ytllpmpfchidhoaa.P

namespace Go.Proofs.Ytllpmpfchidhoaa.P
open Go.RowKit Go.Proofs.YtllpmpfchidhoaaW.PrintWords Go.Proofs.YtllpmpfchidhoaaW.PrintLast Go.Proofs.YtllpmpfchidhoaaW.PrintMore
attribute [local go_sem] max2_int min2_int max_two min_two max_three min_three max_four min_four
set_option linter.unusedVariables false
set_option linter.unusedSimpArgs false
end Go.Proofs.Ytllpmpfchidhoaa.P

namespace Go.Proofs.Ytllpmpfchidhoaa.P
open Go.RowKit Go.Proofs.YtllpmpfchidhoaaW.PrintWords Go.Proofs.YtllpmpfchidhoaaW.PrintLast Go.Proofs.YtllpmpfchidhoaaW.PrintMore
attribute [local go_sem] max2_int min2_int max_two min_two max_three min_three max_four min_four
set_option linter.unusedVariables false
set_option linter.unusedSimpArgs false
end Go.Proofs.Ytllpmpfchidhoaa.P

namespace Go.Proofs.Ytllpmpfchidhoaa.C
open Go.RowKit Go.Proofs.Ytllpmpfchidhoaa.P Go.Proofs.Ytllpmpfchidhoaa.G Go.Proofs.YtllpmpfchidhoaaW.PrintMore
def inS (gap : Int) (l : List Sl) (left : Int) (i : Nat) : Bool := decide (upto gap l i ≤ left) && decide (left < upto gap l (i + 1) - gap)
theorem inS_iff {gap : Int} {l : List Sl} {left : Int} {i : Nat} (hi : i < l.length) : inS gap l left i = true ↔ upto gap l i ≤ left ∧ left < upto gap l i + l[i].f1 := by
  unfold inS; rw [upto_succ gap l i hi]; simp; omega
theorem inS_one {st gap : Int} {l : List Sl} (h : planOk st gap l = true) {left : Int} {i j : Nat} (hi : i < l.length) (hj : j < l.length) (h1 : inS gap l left i = true) (h2 : inS gap l left j = true) : i = j := by
  rw [inS_iff hi] at h1; rw [inS_iff hj] at h2
  rcases Nat.lt_trichotomy i j with c | c | c
  · have := upto_mono h i j c (by omega); rw [planOk_iff] at h; omega
  · exact c
  · have := upto_mono h j i c (by omega); rw [planOk_iff] at h; omega
def slotAtQ (st gap : Int) (l : List Sl) (t : Int) : Int × Int × Bool :=
  found (inS gap l ((t - st) % round gap l)) (fun i => if (occ st gap l i ((t - st) / round gap l)).2.2 = true then ((i : Int), (t - st) / round gap l, true) else (0, 0, false)) (0, 0, false) (List.range l.length)
def slotAt (st gap : Int) (l : List Sl) (t : Int) : Int × Int × Bool := if (planOk st gap l && timeOk t && decide (st ≤ t)) = true then slotAtQ st gap l t else (0, 0, false)
theorem when_q {st gap : Int} {l : List Sl} (h : planOk st gap l = true) {t : Int} (ht : 0 ≤ t ∧ t ≤ 1000000000000) (hs : st ≤ t) :
    0 ≤ (t - st) / round gap l ∧ (t - st) / round gap l ≤ 1000000000000 / round gap l ∧ (t - st) / round gap l ≤ 1000000000000 ∧ 0 ≤ (t - st) % round gap l ∧ (t - st) % round gap l < round gap l ∧ (t - st) / round gap l * round gap l + (t - st) % round gap l = t - st := by
  have hr := round_bd h
  rw [planOk_iff] at h
  have h1 := Int.mul_ediv_add_emod (t - st) (round gap l)
  rw [Int.mul_comm] at h1
  refine ⟨Int.ediv_nonneg (by omega) (by omega), Int.ediv_le_ediv (by omega) (by omega), ?_, Int.emod_nonneg _ (by omega), Int.emod_lt_of_pos _ (by omega), h1⟩
  have := Int.ediv_le_self (round gap l) (show 0 ≤ t - st by omega); omega
theorem occ_eq {st gap : Int} {l : List Sl} {i : Nat} (hi : i < l.length) {q : Int} (hq : 0 ≤ q ∧ q ≤ 1000000000000 / round gap l) : occ st gap l i q = ivalT (st + q * round gap l + upto gap l i) (st + q * round gap l + upto gap l i + l[i].f1) := by
  unfold occ; rw [if_pos hq, List.getElem?_eq_getElem hi]
theorem ivalT_ok {a b : Int} (h : (ivalT a b).2.2 = true) : ivalT a b = (a, b, true) ∧ ivalOk a b = true := by
  unfold ivalT at h ⊢
  cases hv : ivalOk a b with
  | true => exact ⟨rfl, rfl⟩
  | false => rw [hv] at h; simp at h
theorem occ_in {st gap : Int} {l : List Sl} (h : planOk st gap l = true) {t : Int} (ht : 0 ≤ t ∧ t ≤ 1000000000000) (hs : st ≤ t) (i : Nat) (hi : i < l.length) (ho : (occ st gap l i ((t - st) / round gap l)).2.2 = true) :
    ((occ st gap l i ((t - st) / round gap l)).1 ≤ t ∧ t < (occ st gap l i ((t - st) / round gap l)).2.1) ↔ inS gap l ((t - st) % round gap l) i = true := by
  have hq := when_q h ht hs
  rw [inS_iff hi]
  rw [occ_eq hi ⟨hq.1, hq.2.1⟩] at ho ⊢
  rw [(ivalT_ok ho).1]
  simp only
  omega
theorem iSlotAtQ {st gap : Int} {l : List Sl} (h : planOk st gap l = true) {t : Int} (ht : 0 ≤ t ∧ t ≤ 1000000000000) (hs : st ≤ t) (k : Nat) (hk : 60 ≤ k) : impl_SlotAt.j0 k t false st gap l = some (slotAtQ st gap l t) := by
  obtain ⟨k, rfl⟩ : ∃ j, k = j + 1 := ⟨k - 1, by omega⟩
  have hr := round_bd h
  have hq := when_q h ht hs
  have h' := h
  rw [planOk_iff] at h'
  simp only [impl_SlotAt.j0]
  rw [if_neg (by decide), iRound h _ (by omega)]
  simp only [Option.bind_some]
  rw [if_neg (by omega), wrap_id (x := t - st) (by omega) (by omega), Int.tdiv_eq_ediv_of_nonneg (by omega), Int.tmod_eq_emod_of_nonneg (by omega), wrap_id (by omega) (by omega)]
  rw [if_neg (by omega)]
  unfold slotAtQ
  refine find_loop0 (n := l.length) (c := 35) (L := fun k i => impl_SlotAt.l0 k ((t - st) / round gap l) ((t - st) % round gap l) l (l.length : Int) i st gap l) (fun k i hi hk => ?_) (fun k => ?_) k (by omega)
  · simp only [impl_SlotAt.l0]
    have hb := upto_bd h i (by omega)
    have hsl := slotsOk_get h'.2.2.2 i hi
    rw [if_pos (by omega), if_pos (by omega), if_pos (by omega), wrap_succ hi (by omega), rdSl l i hi, iFrom h i (by omega) _ (by omega)]
    simp only [Option.bind_some, in_]
    rw [wrap_id (x := upto gap l i + l[i].f1) (by omega) (by omega), wrap_id (x := upto gap l i + l[i].f1 - 1) (by omega) (by omega), iOcc h i hi _ _ (by omega)]
    simp only [Option.bind_some]
    cases hc : inS gap l ((t - st) % round gap l) i with
    | true =>
      have := (inS_iff hi).1 hc
      rw [decide_eq_true (by omega), if_pos rfl, if_pos rfl]
      split <;> rfl
    | false =>
      have : ¬ (upto gap l i ≤ (t - st) % round gap l ∧ (t - st) % round gap l < upto gap l i + l[i].f1) := by rw [← inS_iff hi, hc]; simp
      rw [decide_eq_false (by omega), if_neg (by decide), if_neg (by decide)]
  · simp only [impl_SlotAt.l0]
    rw [if_neg (by omega)]
theorem sSlotAtQ {st gap : Int} {l : List Sl} (h : planOk st gap l = true) {t : Int} (ht : 0 ≤ t ∧ t ≤ 1000000000000) (hs : st ≤ t) (k : Nat) (hk : 60 ≤ k) : spec_SlotAt.j0 k t false st gap l = some (slotAtQ st gap l t) := by
  obtain ⟨k, rfl⟩ : ∃ j, k = j + 1 := ⟨k - 1, by omega⟩
  have hr := round_bd h
  have hq := when_q h ht hs
  have h' := h
  rw [planOk_iff] at h'
  simp only [spec_SlotAt.j0]
  rw [if_neg (by decide), sRoundOf' h _ (by omega)]
  simp only [Option.bind_some]
  rw [if_neg (by omega), wrap_id (x := t - st) (by omega) (by omega), Int.tdiv_eq_ediv_of_nonneg (by omega), wrap_id (by omega) (by omega)]
  have hL := find_loop0 (n := l.length) (c := 35) (L := fun k i => spec_SlotAt.l0 k t ((t - st) / round gap l) i st gap l) (Q := fun i => (occ st gap l i ((t - st) / round gap l)).2.2 && inS gap l ((t - st) % round gap l) i) (r := fun i => ((i : Int), (t - st) / round gap l, true)) (e := (0, 0, false)) (fun k i hi hk => ?_) (fun k => ?_) k (by omega)
  · rw [hL]
    congr 1
    unfold slotAtQ
    rcases first_of (Q := inS gap l ((t - st) % round gap l)) l.length with ⟨j, h1, h2, h3⟩ | h1
    · rw [found_some h1 h2 h3]
      cases ho : (occ st gap l j ((t - st) / round gap l)).2.2 with
      | true =>
        rw [if_pos rfl]
        refine found_some h1 (by rw [ho, h2]; rfl) (fun i hi => by rw [h3 i hi]; simp)
      | false =>
        rw [if_neg (by decide)]
        refine found_none (fun i hi => ?_)
        cases hc : inS gap l ((t - st) % round gap l) i with
        | false => simp
        | true => obtain rfl := inS_one h hi h1 hc h2; rw [ho]; rfl
    · rw [found_none h1]
      refine found_none (fun i hi => by rw [h1 i hi]; simp)
  · simp only [spec_SlotAt.l0]
    rw [if_pos (by omega), wrap_succ hi (by omega), sOcc h i hi _ _ (by omega)]
    simp only [Option.bind_some]
    cases ho : (occ st gap l i ((t - st) / round gap l)).2.2 with
    | false => simp
    | true =>
      have hio := occ_in h ht hs i hi ho
      rw [if_pos rfl, Bool.true_and]
      cases hc : inS gap l ((t - st) % round gap l) i with
      | true =>
        have := hio.2 hc
        rw [if_pos this.1, if_pos this.2, if_pos rfl]
      | false =>
        rw [hc] at hio
        by_cases hx : (occ st gap l i ((t - st) / round gap l)).1 ≤ t
        · rw [if_pos hx, if_neg (fun hy => by have := hio.1 ⟨hx, hy⟩; cases this), if_neg (by decide)]
        · rw [if_neg hx, if_neg (by decide)]
  · simp only [spec_SlotAt.l0]
    rw [if_neg (by omega)]
theorem iSlotAt (st gap : Int) (l : List Sl) (hl : l.length ≤ 1048576) (t : Int) (k : Nat) (hk : 1050000 ≤ k) : impl_SlotAt.f k st gap l t = some (slotAt st gap l t) := by
  have hj : ∀ k, 1 ≤ k → impl_SlotAt.j0 k t true st gap l = some (0, 0, false) := fun k hk => by
    obtain ⟨k, rfl⟩ : ∃ j, k = j + 1 := ⟨k - 1, by omega⟩
    simp only [impl_SlotAt.j0]; rfl
  unfold impl_SlotAt.f slotAt
  rw [iPlanOk st gap l hl k (by omega), isTime]
  simp only [Option.bind_some]
  change (if planOk st gap l = true then (if timeOk t = true then _ else _) else _) = _
  cases h : planOk st gap l with
  | false => rw [hj k (by omega)]; rfl
  | true =>
    cases h2 : timeOk t with
    | false => rw [hj k (by omega)]; rfl
    | true =>
      rw [timeOk_iff] at h2
      by_cases h3 : t < st
      · rw [decide_eq_true h3, hj k (by omega), decide_eq_false (by omega)]; rfl
      · rw [decide_eq_false h3, iSlotAtQ h h2 (by omega) k (by omega), decide_eq_true (by omega)]; rfl
theorem sSlotAt (st gap : Int) (l : List Sl) (hl : l.length ≤ 1048576) (t : Int) (k : Nat) (hk : 1050000 ≤ k) : spec_SlotAt.f k st gap l t = some (slotAt st gap l t) := by
  have hj : ∀ k, 1 ≤ k → spec_SlotAt.j0 k t true st gap l = some (0, 0, false) := fun k hk => by
    obtain ⟨k, rfl⟩ : ∃ j, k = j + 1 := ⟨k - 1, by omega⟩
    simp only [spec_SlotAt.j0]; rfl
  unfold spec_SlotAt.f slotAt
  rw [sPlanOk st gap l hl k (by omega), l2Time]
  simp only [Option.bind_some]
  change (if planOk st gap l = true then (if timeOk t = true then _ else _) else _) = _
  cases h : planOk st gap l with
  | false => rw [hj k (by omega)]; rfl
  | true =>
    cases h2 : timeOk t with
    | false => rw [hj k (by omega)]; rfl
    | true =>
      rw [timeOk_iff] at h2
      by_cases h3 : t < st
      · rw [decide_eq_true h3, hj k (by omega), decide_eq_false (by omega)]; rfl
      · rw [decide_eq_false h3, sSlotAtQ h h2 (by omega) k (by omega), decide_eq_true (by omega)]; rfl
theorem slotAt_in {st gap : Int} {l : List Sl} {t : Int} (h : (slotAt st gap l t).2.2 = true) : ∃ i : Nat, i < l.length ∧ (slotAt st gap l t).1 = (i : Int) ∧ planOk st gap l = true ∧ timeOk t = true ∧ st ≤ t ∧ (slotAt st gap l t).2.1 = (t - st) / round gap l ∧ inS gap l ((t - st) % round gap l) i = true ∧ (occ st gap l i ((t - st) / round gap l)).2.2 = true := by
  unfold slotAt at h ⊢
  split at h
  · rename_i hc
    rw [if_pos hc]
    simp only [Bool.and_eq_true, decide_eq_true_eq] at hc
    unfold slotAtQ at h ⊢
    rcases first_of (Q := inS gap l ((t - st) % round gap l)) l.length with ⟨j, h1, h2, h3⟩ | h1
    · rw [found_some h1 h2 h3] at h ⊢
      split at h
      · rename_i ho
        rw [if_pos ho]
        exact ⟨j, h1, rfl, hc.1.1, hc.1.2, hc.2, rfl, h2, ho⟩
      · simp at h
    · rw [found_none h1] at h; simp at h
  · simp at h
def inSlot (st gap : Int) (l : List Sl) (owner a b : Int) : Int × Int × Bool :=
  if (slotAt st gap l a).2.2 = true ∧ (match l[(slotAt st gap l a).1.toNat]? with | some x => x.f0 | none => -1) = owner ∧ a ≤ b ∧ b ≤ (occurrence st gap l (slotAt st gap l a).1 (slotAt st gap l a).2.1).2.1
  then ((slotAt st gap l a).1, (slotAt st gap l a).2.1, true) else (0, 0, false)
theorem sInSlot (st gap : Int) (l : List Sl) (hl : l.length ≤ 1048576) (owner a b : Int) (k : Nat) (hk : 1050200 ≤ k) : spec_InSlot.f k st gap l owner a b = some (inSlot st gap l owner a b) := by
  obtain ⟨k, rfl⟩ : ∃ j, k = j + 1 := ⟨k - 1, by omega⟩
  unfold spec_InSlot.f inSlot
  rw [sSlotAt st gap l hl a _ (by omega)]
  simp only [Option.bind_some, spec_InSlot.j0]
  rw [sOccurrence st gap l hl _ _ _ (by omega)]
  simp only [Option.bind_some, if_true]
  cases h : (slotAt st gap l a).2.2 with
  | false => simp
  | true =>
    obtain ⟨i, hi, e, _⟩ := slotAt_in h
    rw [if_pos rfl, e, if_pos (by omega), if_pos (by omega), rdSl l i hi]
    have e2 : ((i : Int)).toNat = i := by omega
    rw [e2, List.getElem?_eq_getElem hi]
    simp only
    by_cases h1 : l[i].f0 = owner
    · rw [if_pos h1]
      by_cases h2 : a > b
      · rw [decide_eq_true h2, if_pos rfl, if_neg (by omega)]
      · rw [decide_eq_false h2, if_neg (by decide)]
        by_cases h3 : b > (occurrence st gap l (i : Int) (slotAt st gap l a).2.1).2.1
        · rw [if_pos h3, if_neg (by omega)]
        · rw [if_neg h3, if_pos ⟨trivial, h1, by omega, by omega⟩]
    · rw [if_neg h1, if_neg (fun hx => h1 hx.2.1)]
theorem iInSlot (st gap : Int) (l : List Sl) (hl : l.length ≤ 1048576) (owner a b : Int) (k : Nat) (hk : 1050200 ≤ k) : impl_InSlot.f k st gap l owner a b = some (inSlot st gap l owner a b) := by
  obtain ⟨k, rfl⟩ : ∃ j, k = j + 1 := ⟨k - 1, by omega⟩
  unfold impl_InSlot.f inSlot
  rw [iSlotAt st gap l hl a _ (by omega)]
  simp only [Option.bind_some, impl_InSlot.j0]
  rw [iOccurrence st gap l hl _ _ _ (by omega)]
  simp only [Option.bind_some, if_true]
  cases h : (slotAt st gap l a).2.2 with
  | false => simp
  | true =>
    obtain ⟨i, hi, e, _⟩ := slotAt_in h
    rw [if_pos rfl, e, if_pos (by omega), if_pos (by omega), rdSl l i hi]
    have e2 : ((i : Int)).toNat = i := by omega
    rw [e2, List.getElem?_eq_getElem hi]
    simp only
    by_cases h1 : l[i].f0 = owner
    · rw [if_pos h1]
      by_cases h2 : a > b
      · rw [decide_eq_true h2, if_pos rfl, if_neg (by omega)]
      · rw [decide_eq_false h2, if_neg (by decide)]
        by_cases h3 : b > (occurrence st gap l (i : Int) (slotAt st gap l a).2.1).2.1
        · rw [if_pos h3, if_neg (by omega)]
        · rw [if_neg h3, if_pos ⟨trivial, h1, by omega, by omega⟩]
    · rw [if_neg h1, if_neg (fun hx => h1 hx.2.1)]
end Go.Proofs.Ytllpmpfchidhoaa.C
namespace Go.Proofs.Ytllpmpfchidhoaa.P
open Go.RowKit Go.Proofs.YtllpmpfchidhoaaW.PrintWords Go.Proofs.YtllpmpfchidhoaaW.PrintLast Go.Proofs.YtllpmpfchidhoaaW.PrintMore
attribute [local go_sem] max2_int min2_int max_two min_two max_three min_three max_four min_four
set_option linter.unusedVariables false
set_option linter.unusedSimpArgs false
def impl_down.f (a0 : Int) (a1 : Int) : Option (Int) := if a1 = 0 then (none) else (if (Int.tmod a0 a1) < 0 then (some (wrap64 ((wrap64 (Int.tdiv a0 a1)) - 1))) else (some (wrap64 (Int.tdiv a0 a1))))
end Go.Proofs.Ytllpmpfchidhoaa.P
namespace Go.Proofs.Ytllpmpfchidhoaa.P
open Go.RowKit Go.Proofs.YtllpmpfchidhoaaW.PrintWords Go.Proofs.YtllpmpfchidhoaaW.PrintLast Go.Proofs.YtllpmpfchidhoaaW.PrintMore
attribute [local go_sem] max2_int min2_int max_two min_two max_three min_three max_four min_four
set_option linter.unusedVariables false
set_option linter.unusedSimpArgs false
end Go.Proofs.Ytllpmpfchidhoaa.P

namespace Go.Proofs.Ytllpmpfchidhoaa.P
open Go.RowKit Go.Proofs.YtllpmpfchidhoaaW.PrintWords Go.Proofs.YtllpmpfchidhoaaW.PrintLast Go.Proofs.YtllpmpfchidhoaaW.PrintMore
attribute [local go_sem] max2_int min2_int max_two min_two max_three min_three max_four min_four
set_option linter.unusedVariables false
set_option linter.unusedSimpArgs false
end Go.Proofs.Ytllpmpfchidhoaa.P

namespace Go.Proofs.Ytllpmpfchidhoaa.P
open Go.RowKit Go.Proofs.YtllpmpfchidhoaaW.PrintWords Go.Proofs.YtllpmpfchidhoaaW.PrintLast Go.Proofs.YtllpmpfchidhoaaW.PrintMore
attribute [local go_sem] max2_int min2_int max_two min_two max_three min_three max_four min_four
set_option linter.unusedVariables false
set_option linter.unusedSimpArgs false
end Go.Proofs.Ytllpmpfchidhoaa.P

namespace Go.Proofs.Ytllpmpfchidhoaa.C
open Go.RowKit Go.Proofs.Ytllpmpfchidhoaa.P Go.Proofs.Ytllpmpfchidhoaa.G
def driftOk (n d : Int) : Bool := decide (1 ≤ d ∧ d ≤ 1000000) && decide (0 ≤ n ∧ n ≤ d) && decide (2 * n ≤ d)
theorem driftOk_iff (n d : Int) : driftOk n d = true ↔ 1 ≤ d ∧ d ≤ 1000000 ∧ 0 ≤ n ∧ 2 * n ≤ d := by
  unfold driftOk; simp; omega
theorem sDriftOk (n d : Int) : spec_DriftOk.f n d = some (driftOk n d) := by
  unfold spec_DriftOk.f driftOk; simp only [l1In, Option.bind_some]
  by_cases h1 : (1 ≤ d ∧ d ≤ 1000000)
  · by_cases h2 : (0 ≤ n ∧ n ≤ d)
    · rw [wrap_id (by omega) (by omega)]; simp [h1, h2]
    · simp [h1, h2]
  · simp [h1]
theorem iDriftOk (n d : Int) : impl_DriftOk.f n d = some (driftOk n d) := by
  unfold impl_DriftOk.f driftOk; simp only [in_, Option.bind_some]
  by_cases h1 : (1 ≤ d ∧ d ≤ 1000000)
  · by_cases h2 : (0 ≤ n ∧ n ≤ d)
    · rw [wrap_id (by omega) (by omega)]; simp [h1, h2]
    · simp [h1, h2]
  · simp [h1]
theorem mul_bd {x d : Int} (hx : 0 ≤ x ∧ x ≤ 1000000000000) (hd : 0 ≤ d ∧ d ≤ 1000000) : 0 ≤ x * d ∧ x * d ≤ 1000000000000000000 := by
  refine ⟨Int.mul_nonneg hx.1 hd.1, ?_⟩
  calc x * d ≤ 1000000000000 * d := Int.mul_le_mul_of_nonneg_right hx.2 hd.1
    _ ≤ 1000000000000 * 1000000 := Int.mul_le_mul_of_nonneg_left hd.2 (by omega)
theorem ediv_bd {a b : Int} (ha : 0 ≤ a) (hb : 1 ≤ b) : 0 ≤ a / b ∧ a / b ≤ a :=
  ⟨Int.ediv_nonneg ha (by omega), Int.ediv_le_self _ ha⟩
theorem down_eq {a b : Int} (hb : 1 ≤ b) : (if Int.tmod a b < 0 then Int.tdiv a b - 1 else Int.tdiv a b) = a / b := by
  have h1 := Int.mul_tdiv_add_tmod a b
  have h2 := Int.mul_ediv_add_emod a b
  have h3 := Int.emod_nonneg a (by omega : b ≠ 0)
  have h4 := Int.emod_lt_of_pos a (by omega : 0 < b)
  have h5 := Int.tmod_lt_of_pos a (by omega : 0 < b)
  rcases Int.lt_or_le a 0 with h | h
  · have h6 : -b < Int.tmod a b := by
      have := Int.tmod_lt_of_pos (-a) (by omega : 0 < b); rw [Int.neg_tmod] at this; omega
    split
    · have e : b * (Int.tdiv a b - 1) + (Int.tmod a b + b) = b * (a / b) + a % b := by rw [Int.mul_sub, Int.mul_one]; omega
      have : b * (Int.tdiv a b - 1 - a / b) = a % b - (Int.tmod a b + b) := by rw [Int.mul_sub]; omega
      rcases Int.lt_trichotomy (Int.tdiv a b - 1 - a / b) 0 with c | c | c
      · have : b * (Int.tdiv a b - 1 - a / b) ≤ b * (-1) := Int.mul_le_mul_of_nonneg_left (by omega) (by omega); omega
      · omega
      · have : b * 1 ≤ b * (Int.tdiv a b - 1 - a / b) := Int.mul_le_mul_of_nonneg_left (by omega) (by omega); omega
    · rename_i h7
      have : b * (Int.tdiv a b - a / b) = a % b - Int.tmod a b := by rw [Int.mul_sub]; omega
      rcases Int.lt_trichotomy (Int.tdiv a b - a / b) 0 with c | c | c
      · have : b * (Int.tdiv a b - a / b) ≤ b * (-1) := Int.mul_le_mul_of_nonneg_left (by omega) (by omega); omega
      · omega
      · have : b * 1 ≤ b * (Int.tdiv a b - a / b) := Int.mul_le_mul_of_nonneg_left (by omega) (by omega); omega
  · rw [if_neg (by have := Int.tmod_nonneg b h; omega), Int.tdiv_eq_ediv_of_nonneg h]
theorem iDown {a b : Int} (hb : 1 ≤ b) (ha : -1000000000000000000 ≤ a ∧ a ≤ 1000000000000000000) : impl_down.f a b = some (a / b) := by
  have hd := down_eq (a := a) hb
  have hq : -1000000000000000000 ≤ a / b ∧ a / b ≤ 1000000000000000000 := by
    rcases Int.lt_or_le a 0 with h | h
    · have h2 := Int.mul_ediv_add_emod a b
      have h3 := Int.emod_nonneg a (by omega : b ≠ 0)
      have h4 : a / b < 0 := Int.ediv_neg_of_neg_of_pos h (by omega)
      have h5 : a ≤ a / b := by
        have e : b * (a / b) ≤ 1 * (a / b) := by
          have := Int.mul_le_mul_of_nonpos_right hb (by omega : a / b ≤ 0); exact this
        have h6 := Int.emod_lt_of_pos a (by omega : 0 < b)
        rcases Int.lt_or_le (a / b) a with c | c
        · have : b * (a / b) ≤ b * (a - 1) := Int.mul_le_mul_of_nonneg_left (by omega) (by omega)
          have : b * (a - 1) = b * a - b := by rw [Int.mul_sub, Int.mul_one]
          have : b * a ≤ 1 * a := Int.mul_le_mul_of_nonpos_right hb (by omega)
          omega
        · exact c
      omega
    · have := ediv_bd h hb; omega
  unfold impl_down.f
  rw [if_neg (by omega)]
  by_cases h : Int.tmod a b < 0
  · rw [if_pos h] at hd ⊢
    rw [wrap_id (x := Int.tdiv a b) (by omega) (by omega), hd, wrap_id (by omega) (by omega)]
  · rw [if_neg h] at hd ⊢
    rw [hd, wrap_id (by omega) (by omega)]
theorem sDown {a b : Int} (hb : 1 ≤ b) (ha : -1000000000000000000 ≤ a ∧ a ≤ 1000000000000000000) : spec_l1Down.f a b = some (a / b) := iDown hb ha
def mostTime (n d x : Int) : Int × Bool := if (driftOk n d && timeOk x) = true then (if x * d / (d - n) ≤ 1000000000000 then (x * d / (d - n), true) else (0, false)) else (0, false)
def leastTime (n d x : Int) : Int × Bool := if (driftOk n d && timeOk x) = true then (if -(-(x * d) / (d + n)) ≤ 1000000000000 then (-(-(x * d) / (d + n)), true) else (0, false)) else (0, false)
theorem told (x : Int) : spec_l2Told.f x = some (if x ≤ 1000000000000 then (x, true) else (0, false)) := by
  unfold spec_l2Told.f; by_cases h : x > 1000000000000
  · rw [if_pos h, if_neg (by omega)]
  · rw [if_neg h, if_pos (by omega)]
theorem up_bd {x n d : Int} (h : driftOk n d = true) (hx : timeOk x = true) : -(1000000000000000000 : Int) ≤ -(-(x * d) / (d + n)) ∧ -(-(x * d) / (d + n)) ≤ 1000000000000000000 := by
  rw [driftOk_iff] at h; rw [timeOk_iff] at hx
  have hm := mul_bd hx (d := d) (by omega)
  have h2 := Int.mul_ediv_add_emod (-(x * d)) (d + n)
  have h3 := Int.emod_nonneg (-(x * d)) (by omega : d + n ≠ 0)
  have h4 := Int.emod_lt_of_pos (-(x * d)) (by omega : 0 < d + n)
  have h5 : -(x * d) / (d + n) ≤ 0 := by
    rcases Int.lt_or_le 0 (-(x * d) / (d + n)) with c | c
    · have : (d + n) * 1 ≤ (d + n) * (-(x * d) / (d + n)) := Int.mul_le_mul_of_nonneg_left (by omega) (by omega); omega
    · exact c
  have h6 : -(x * d) ≤ -(x * d) / (d + n) := by
    rcases Int.lt_or_le (-(x * d) / (d + n)) (-(x * d)) with c | c
    · have e1 : (d + n) * (-(x * d) / (d + n)) ≤ (d + n) * (-(x * d) - 1) := Int.mul_le_mul_of_nonneg_left (by omega) (by omega)
      have e2 : (d + n) * (-(x * d) - 1) = (d + n) * (-(x * d)) - (d + n) := by rw [Int.mul_sub, Int.mul_one]
      have e3 : (d + n) * (-(x * d)) ≤ 1 * (-(x * d)) := Int.mul_le_mul_of_nonpos_right (by omega) (by omega)
      omega
    · exact c
  omega
theorem sMostTime (k : Nat) (n d x : Int) (hk : 1 ≤ k) : spec_MostTime.f k n d x = some (mostTime n d x) := by
  obtain ⟨k, rfl⟩ : ∃ j, k = j + 1 := ⟨k - 1, by omega⟩
  unfold spec_MostTime.f mostTime; simp only [sDriftOk, l2Time, Option.bind_some, spec_MostTime.j0]
  change (if driftOk n d = true then (if (!timeOk x) = true then _ else _) else _) = _
  cases h1 : driftOk n d with
  | false => simp
  | true =>
    cases h2 : timeOk x with
    | false => simp
    | true =>
      rw [driftOk_iff] at h1; rw [timeOk_iff] at h2
      have hm := mul_bd h2 (d := d) (by omega)
      simp only [Bool.not_true, Bool.false_eq_true, if_false, if_true, Bool.and_true]
      rw [wrap_id (x := x * d) (by omega) (by omega), wrap_id (x := d - n) (by omega) (by omega), sDown (by omega) (by omega)]
      simp only [Option.bind_some, told]
theorem iBounded (n d x y : Int) : impl_bounded.f n d x y = some (if (driftOk n d && timeOk x) = true then (if y ≤ 1000000000000 then (y, true) else (0, false)) else (0, false)) := by
  unfold impl_bounded.f; simp only [iDriftOk, isTime, Option.bind_some]
  change (if driftOk n d = true then (if timeOk x = true then _ else _) else _) = _
  cases h1 : driftOk n d <;> cases h2 : timeOk x <;> simp
  split <;> rfl
theorem iMostTime (n d x : Int) : impl_MostTime.f n d x = some (mostTime n d x) := by
  unfold impl_MostTime.f mostTime; simp only [iDriftOk, Option.bind_some, iBounded]
  cases h1 : driftOk n d with
  | false => simp
  | true =>
    have h1' := h1
    rw [driftOk_iff] at h1'
    rw [if_pos rfl, wrap_id (x := d - n) (by omega) (by omega), if_neg (by omega)]
    cases h2 : timeOk x with
    | false => simp
    | true =>
      rw [timeOk_iff] at h2
      have hm := mul_bd h2 (d := d) (by omega)
      have hq := ediv_bd hm.1 (b := d - n) (by omega)
      rw [wrap_id (x := x * d) (by omega) (by omega), Int.tdiv_eq_ediv_of_nonneg hm.1, wrap_id (by omega) (by omega)]
theorem sLeastTime (k : Nat) (n d x : Int) (hk : 1 ≤ k) : spec_LeastTime.f k n d x = some (leastTime n d x) := by
  obtain ⟨k, rfl⟩ : ∃ j, k = j + 1 := ⟨k - 1, by omega⟩
  unfold spec_LeastTime.f leastTime; simp only [sDriftOk, l2Time, Option.bind_some, spec_LeastTime.j0]
  change (if driftOk n d = true then (if (!timeOk x) = true then _ else _) else _) = _
  cases h1 : driftOk n d with
  | false => simp
  | true =>
    cases h2 : timeOk x with
    | false => simp
    | true =>
      have hu := up_bd h1 h2
      rw [driftOk_iff] at h1; rw [timeOk_iff] at h2
      have hm := mul_bd h2 (d := d) (by omega)
      simp only [Bool.not_true, Bool.false_eq_true, if_false, if_true, Bool.and_true]
      unfold spec_l1Up.f
      rw [wrap_id (x := x * d) (by omega) (by omega), wrap_id (x := d + n) (by omega) (by omega), wrap_id (x := -(x * d)) (by omega) (by omega), sDown (by omega) (by omega)]
      simp only [Option.bind_some]
      rw [wrap_id (by omega) (by omega)]
      simp only [told, Option.bind_some]
def spread (a b x y : Int) : Int × Int × Bool := if ivalOk a b && decide (0 ≤ x ∧ x ≤ 2000000000000) && decide (0 ≤ y ∧ y ≤ 2000000000000) then ivalT (a - x) (b + y) else (0, 0, false)
theorem sSpread (a b x y : Int) : spec_Spread.f a b x y = some (spread a b x y) := by
  unfold spec_Spread.f spread; simp only [sIvalOk, l1In, Option.bind_some]
  cases h1 : ivalOk a b with
  | false => simp
  | true =>
    rw [ivalOk_iff] at h1
    by_cases h2 : (0 ≤ x ∧ x ≤ 2000000000000)
    · by_cases h3 : (0 ≤ y ∧ y ≤ 2000000000000)
      · rw [wrap_id (by omega) (by omega), wrap_id (by omega) (by omega)]; simp [h2, h3, sTold]
      · simp [h2, h3]
    · simp [h2]
theorem iSpread (a b x y : Int) : impl_Spread.f a b x y = some (spread a b x y) := by
  unfold impl_Spread.f spread; simp only [iIvalOk, in_, Option.bind_some]
  cases h1 : ivalOk a b with
  | false => simp
  | true =>
    rw [ivalOk_iff] at h1
    by_cases h2 : (0 ≤ x ∧ x ≤ 2000000000000)
    · by_cases h3 : (0 ≤ y ∧ y ≤ 2000000000000)
      · rw [wrap_id (by omega) (by omega), wrap_id (by omega) (by omega)]; simp [h2, h3, iIval]
      · simp [h2, h3]
    · simp [h2]
def gateSpan (a b n d x : Int) : Int × Int × Bool := if (mostTime n d x).2 = true then (if x < 1 then (0, 0, false) else spread a b 0 (mostTime n d x).1) else (0, 0, false)
theorem sGateSpan (k : Nat) (a b n d x : Int) (hk : 1 ≤ k) : spec_GateSpan.f k a b n d x = some (gateSpan a b n d x) := by
  unfold spec_GateSpan.f gateSpan; simp only [sMostTime k n d x hk, sSpread, Option.bind_some]
  split
  · split <;> rfl
  · rfl
theorem iGateSpan (a b n d x : Int) : impl_GateSpan.f a b n d x = some (gateSpan a b n d x) := by
  unfold impl_GateSpan.f gateSpan; simp only [iMostTime n d x, iSpread, Option.bind_some]
  split
  · split <;> rfl
  · rfl
end Go.Proofs.Ytllpmpfchidhoaa.C
namespace Go.Proofs.Ytllpmpfchidhoaa.C
open Go.RowKit Go.Proofs.Ytllpmpfchidhoaa.P Go.Proofs.Ytllpmpfchidhoaa.G Go.Proofs.YtllpmpfchidhoaaW.PrintWords
theorem dDrift6 (s : List Int) (p z : Int) (h : At s p) : ∃ n d p' z', spec_l6DrawDrift.f s p z = some (n, d, p', z') ∧ At s p' := by
  unfold spec_l6DrawDrift.f
  obtain ⟨n, d, p1, z1, e1, a1⟩ := dDrift2 s p z h
  rw [e1]; simp only [Option.bind_some, sDriftOk]
  split
  · exact ⟨_, _, _, _, rfl, a1⟩
  · obtain ⟨o, p4, z4, e4, a4⟩ := dOnce s p1 z1 4 a1
    rw [e4]; simp only [Option.bind_some]
    split
    · exact ⟨_, _, _, _, rfl, a4⟩
    · exact ⟨_, _, _, _, rfl, a4⟩
theorem dTimeJ (s : List Int) (p z a b : Int) (bad : Bool) (h : At s p) (k : Nat) (hk : 1 ≤ k) : ∃ v p' z', spec_l13DrawTime.j0 k bad s p z a b = some (v, p', z') ∧ At s p' := by
  obtain ⟨k, rfl⟩ : ∃ j, k = j + 1 := ⟨k - 1, by omega⟩
  simp only [spec_l13DrawTime.j0]
  split
  · obtain ⟨v, p1, z1, e1, a1, _⟩ := dCount s p z h
    rw [e1]; exact ⟨_, _, _, rfl, a1⟩
  · obtain ⟨v, p1, z1, e1, a1, _⟩ := dPick s p z [a, b, wrap64 (a - 1), wrap64 (b - 1), wrap64 (Int.tdiv (wrap64 (a + b)) 2)] h (by simp) (by simp)
    rw [e1]; exact ⟨_, _, _, rfl, a1⟩
theorem dTime (s : List Int) (p z : Int) (h : At s p) (st gap : Int) (l : List Sl) (hl : l.length ≤ 1048576) (k : Nat) (hk : 1050200 ≤ k) : ∃ v p' z', spec_l13DrawTime.f k s p z st gap l = some (v, p', z') ∧ At s p' := by
  unfold spec_l13DrawTime.f
  obtain ⟨i, p1, z1, e1, a1, _⟩ := dBelow s p z (l.length : Int) h
  rw [e1]; simp only [Option.bind_some]
  obtain ⟨q, p2, z2, e2, a2, _⟩ := dBelow s p1 z1 5 a1
  rw [e2]; simp only [Option.bind_some]
  rw [sOccurrence st gap l hl i q k (by omega)]; simp only [Option.bind_some]
  split
  · obtain ⟨o, p3, z3, e3, a3⟩ := dOnce s p2 z2 6 a2
    rw [e3]; simp only [Option.bind_some]
    exact dTimeJ s p3 z3 _ _ _ a3 k (by omega)
  · exact dTimeJ s p2 z2 _ _ _ a2 k (by omega)
theorem dLong (s : List Int) (p z : Int) (h : At s p) : ∃ v p' z', spec_l14DrawLong.f s p z = some (v, p', z') ∧ At s p' := by
  unfold spec_l14DrawLong.f
  obtain ⟨o, p1, z1, e1, a1⟩ := dOnce s p z 15 h
  rw [e1]; simp only [Option.bind_some]
  split
  · obtain ⟨v, p2, z2, e2, a2, _⟩ := dCount s p1 z1 a1
    rw [e2]; exact ⟨_, _, _, rfl, a2⟩
  · obtain ⟨v, p2, z2, e2, a2, _⟩ := dBelow s p1 z1 20 a1
    rw [e2]; exact ⟨_, _, _, rfl, a2⟩
theorem dAsk1 (own : Int) (s : List Int) (p z : Int) (h : At s p) (st gap : Int) (l : List Sl) (n d a b : Int) (k : Nat) (hk : 1 ≤ k) : ∃ kn x o, spec_DrawGateAsk.j1 k own s p z st gap l n d a b = some (a, b, kn, n, d, x, st, gap, l, o) := by
  obtain ⟨k, rfl⟩ : ∃ j, k = j + 1 := ⟨k - 1, by omega⟩
  simp only [spec_DrawGateAsk.j1]
  obtain ⟨o, p1, z1, e1, a1⟩ := dOnce s p z 25 h
  rw [e1]; simp only [Option.bind_some]
  split
  · obtain ⟨v, p2, z2, e2, a2, _⟩ := dPick s p1 z1 [(-1), 8] a1 (by simp) (by simp)
    rw [e2]; simp only [Option.bind_some]
    obtain ⟨o2, p3, z3, e3, a3⟩ := dOnce s p2 z2 9 a2
    rw [e3]; simp only [Option.bind_some]
    obtain ⟨x, p4, z4, e4, a4⟩ := dLong s p3 z3 a3
    rw [e4]; exact ⟨_, _, _, rfl⟩
  · obtain ⟨o2, p3, z3, e3, a3⟩ := dOnce s p1 z1 9 a1
    rw [e3]; simp only [Option.bind_some]
    obtain ⟨x, p4, z4, e4, a4⟩ := dLong s p3 z3 a3
    rw [e4]; exact ⟨_, _, _, rfl⟩
theorem dGateAsk (s : List Int) (hs : s.length ≤ 1048576) (k : Nat) (hk : 1050300 ≤ k) : ∃ a b kn n d x st gap l o, spec_DrawGateAsk.f k s = some (a, b, kn, n, d, x, st, gap, l, o) ∧ l.length ≤ 13 := by
  obtain ⟨k, rfl⟩ : ∃ j, k = j + 1 := ⟨k - 1, by omega⟩
  unfold spec_DrawGateAsk.f
  obtain ⟨z0, e0, a0⟩ := dNew s hs (k + 1) (by omega)
  rw [e0]; simp only [Option.bind_some]
  obtain ⟨st, gap, l, p1, z1, e1, a1, hl⟩ := dAny s 0 z0 a0 (k + 1) (by omega)
  rw [e1]; simp only [Option.bind_some]
  obtain ⟨n, d, p2, z2, e2, a2⟩ := dDrift6 s p1 z1 a1
  rw [e2]; simp only [Option.bind_some]
  obtain ⟨t, p3, z3, e3, a3⟩ := dTime s p2 z2 a2 st gap l (by omega) (k + 1) (by omega)
  rw [e3]; simp only [Option.bind_some]
  have hm : ∃ m, spec_l1Min.f t 1000000000000 = some m := by unfold spec_l1Min.f; split <;> exact ⟨_, rfl⟩
  obtain ⟨m, em⟩ := hm
  rw [em]; simp only [Option.bind_some]
  obtain ⟨u, p4, z4, e4, a4, _⟩ := dBelow s p3 z3 12 a3
  rw [e4]; simp only [Option.bind_some]
  obtain ⟨v, p5, z5, e5, a5, _⟩ := dBelow s p4 z4 4 a4
  rw [e5]; simp only [Option.bind_some]
  rw [sSlotAt st gap l (by omega) t (k + 1) (by omega)]; simp only [Option.bind_some]
  cases hs : (slotAt st gap l t).2.2 with
  | true =>
    rw [if_pos rfl]
    obtain ⟨o, p6, z6, e6, a6⟩ := dOnce s p5 z5 6 a5
    rw [e6]; simp only [Option.bind_some, spec_DrawGateAsk.j0]
    obtain ⟨i, hi, ei, _⟩ := slotAt_in hs
    rw [ei, if_pos (show (0 : Int) ≤ i by omega), if_pos (show (i : Int) < l.length by omega)]
    split
    · obtain ⟨kn, x, o2, e7⟩ := dAsk1 ((rd_T42 l (i : Int)).f0) s p6 z6 a6 st gap l n d t (wrap64 (m + u)) k (by omega)
      rw [e7]; exact ⟨_, _, _, _, _, _, _, _, _, _, rfl, hl⟩
    · obtain ⟨kn, x, o2, e7⟩ := dAsk1 v s p6 z6 a6 st gap l n d t (wrap64 (m + u)) k (by omega)
      rw [e7]; exact ⟨_, _, _, _, _, _, _, _, _, _, rfl, hl⟩
  | false =>
    rw [if_neg (by decide)]
    simp only [spec_DrawGateAsk.j0]
    rw [if_neg (by decide)]
    obtain ⟨kn, x, o2, e7⟩ := dAsk1 v s p5 z5 a5 st gap l n d t (wrap64 (m + u)) k (by omega)
    rw [e7]; exact ⟨_, _, _, _, _, _, _, _, _, _, rfl, hl⟩
theorem u8_wf {y : Int} (h : (Lit.int .u8 y).wf = true) : 0 ≤ y ∧ y ≤ 255 := by
  have h' : (decide (IntKind.u8.min ≤ y) && decide (y ≤ IntKind.u8.max)) = true := h
  rw [Bool.and_eq_true, decide_eq_true_iff, decide_eq_true_iff] at h'
  have e1 : IntKind.u8.min = 0 := by decide
  have e2 : IntKind.u8.max = 255 := by decide
  omega
theorem dAt (s : List Int) (hs : s.length ≤ 1048576) (hb : ∀ y ∈ s, (Lit.int .u8 y).wf = true) (i : Int) (hi : 0 ≤ i ∧ i ≤ 1000000) : ∃ v, laws_at.f s i = some v ∧ 0 ≤ v ∧ v ≤ 255 := by
  unfold laws_at.f
  by_cases h : i < (s.length : Int)
  · rw [if_pos h, if_pos hi.1]
    obtain ⟨n, rfl⟩ := Int.eq_ofNat_of_zero_le hi.1
    have hn : n < s.length := by omega
    have e : rd s (n : Int) = s[n] := by unfold rd; simp [List.getD, hn]
    have hw := u8_wf (hb s[n] (List.getElem_mem hn))
    rw [e, wrap_id (by omega) (by omega)]
    exact ⟨_, rfl, by omega⟩
  · rw [if_neg h, wrap_id (x := i * 7) (by omega) (by omega), wrap_id (by omega) (by omega)]
    refine ⟨_, rfl, Int.tmod_nonneg _ (by omega), ?_⟩
    have := Int.tmod_lt_of_pos (i * 7 + (s.length : Int)) (show (0 : Int) < 256 by omega)
    omega
theorem dBig (s : List Int) : laws_big.f s = some (decide ((s.length : Int) > 1048576)) := rfl
theorem pick_in {v n : Int} (hv : 0 ≤ v) (hn : 0 < n) : 0 ≤ Int.tmod v n ∧ Int.tmod v n < n := ⟨Int.tmod_nonneg _ hv, Int.tmod_lt_of_pos _ hn⟩
end Go.Proofs.Ytllpmpfchidhoaa.C
