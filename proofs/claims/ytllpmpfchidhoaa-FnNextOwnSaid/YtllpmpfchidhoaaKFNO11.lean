/- Texts of the seat's proofs, part 11: functions of the program told as plain functions, with their contracts, and what is shown of them. No condition. -/
import Derived.Test.YtllpmpfchidhoaaUKFNO
import Derived.Test.YtllpmpfchidhoaaKFNO1
import Derived.Test.YtllpmpfchidhoaaKFNO4
import Derived.Test.YtllpmpfchidhoaaKFNO2
import Derived.Test.YtllpmpfchidhoaaKFNO3
import Derived.Test.YtllpmpfchidhoaaKFNO5
import Derived.Test.YtllpmpfchidhoaaKFNO10
import Derived.Test.YtllpmpfchidhoaaKFNO7
import Derived.Test.YtllpmpfchidhoaaKFNO8
import Derived.Test.YtllpmpfchidhoaaKFNO6
import Derived.Deep.Slices
import Derived.ProofKit
import Derived.OpenShut
set_option linter.unusedVariables false
set_option linter.unusedSimpArgs false
namespace Go.Proofs.Ytllpmpfchidhoaa.P
open Go.RowKit Go.Proofs.YtllpmpfchidhoaaW.PrintWords Go.Proofs.YtllpmpfchidhoaaW.PrintLast Go.Proofs.YtllpmpfchidhoaaW.PrintMore
attribute [local go_sem] max2_int min2_int max_two min_two max_three min_three max_four min_four
set_option linter.unusedVariables false
set_option linter.unusedSimpArgs false
end Go.Proofs.Ytllpmpfchidhoaa.P

namespace Go.Proofs.Ytllpmpfchidhoaa.C
open Go.RowKit Go.Proofs.Ytllpmpfchidhoaa.P Go.Proofs.Ytllpmpfchidhoaa.G Go.Proofs.YtllpmpfchidhoaaW.PrintWords
theorem dNextOwn (s : List Int) (hs : s.length ≤ 1048576) (k : Nat) (hk : 1050300 ≤ k) : ∃ st gap l o t, spec_DrawNextOwn.f k s = some (st, gap, l, o, t) ∧ l.length ≤ 13 := by
  unfold spec_DrawNextOwn.f
  obtain ⟨z0, e0, a0⟩ := dNew s hs k (by omega); rw [e0]; simp only [Option.bind_some]; obtain ⟨st, gap, l, p1, z1, e1, a1, hl⟩ := dAny s 0 z0 a0 k (by omega); rw [e1]; simp only [Option.bind_some]; obtain ⟨o, p2, z2, e2, a2, _⟩ := dBelow s p1 z1 5 a1; rw [e2]; simp only [Option.bind_some]; obtain ⟨t, p3, z3, e3, a3⟩ := dTime s p2 z2 a2 st gap l (by omega) k (by omega); rw [e3]; exact ⟨_, _, _, _, _, rfl, hl⟩
theorem u8_wf {y : Int} (h : (Lit.int .u8 y).wf = true) : 0 ≤ y ∧ y ≤ 255 := by
  have h' : (decide (IntKind.u8.min ≤ y) && decide (y ≤ IntKind.u8.max)) = true := h; rw [Bool.and_eq_true, decide_eq_true_iff, decide_eq_true_iff] at h'; have e1 : IntKind.u8.min = 0 := by decide
  have e2 : IntKind.u8.max = 255 := by decide
  omega
theorem dAt (s : List Int) (hs : s.length ≤ 1048576) (hb : ∀ y ∈ s, (Lit.int .u8 y).wf = true) (i : Int) (hi : 0 ≤ i ∧ i ≤ 1000000) : ∃ v, laws_at.f s i = some v ∧ 0 ≤ v ∧ v ≤ 255 := by
  unfold laws_at.f
  by_cases h : i < (s.length : Int)
  · rw [if_pos h, if_pos hi.1]; obtain ⟨n, rfl⟩ := Int.eq_ofNat_of_zero_le hi.1; have hn : n < s.length := by omega
    have e : rd s (n : Int) = s[n] := by unfold rd; simp [List.getD, hn]
    have hw := u8_wf (hb s[n] (List.getElem_mem hn)); rw [e, wrap_id (by omega) (by omega)]; exact ⟨_, rfl, by omega⟩
  · rw [if_neg h, wrap_id (x := i * 7) (by omega) (by omega), wrap_id (by omega) (by omega)]; refine ⟨_, rfl, Int.tmod_nonneg _ (by omega), ?_⟩
    have := Int.tmod_lt_of_pos (i * 7 + (s.length : Int)) (show (0 : Int) < 256 by omega); omega
theorem dBig (s : List Int) : laws_big.f s = some (decide ((s.length : Int) > 1048576)) := rfl
end Go.Proofs.Ytllpmpfchidhoaa.C
namespace Go.Proofs.Ytllpmpfchidhoaa.C
open Go.RowKit Go.Proofs.Ytllpmpfchidhoaa.P Go.Proofs.Ytllpmpfchidhoaa.G
theorem slotAt_of {st gap : Int} {l : List Sl} {t : Int} (h : planOk st gap l = true) (ht : 0 ≤ t ∧ t ≤ 1000000000000) (hs : st ≤ t) (i : Nat) (hi : i < l.length)
    (ho : (occ st gap l i ((t - st) / round gap l)).2.2 = true) (h1 : (occ st gap l i ((t - st) / round gap l)).1 ≤ t) (h2 : t < (occ st gap l i ((t - st) / round gap l)).2.1) :
    slotAt st gap l t = ((i : Int), (t - st) / round gap l, true) := by
  have hin := (occ_in h ht hs i hi ho).1 ⟨h1, h2⟩; unfold slotAt
  rw [if_pos (by rw [h, (timeOk_iff t).2 ht, decide_eq_true hs]; rfl)]; unfold slotAtQ
  rw [found_some hi hin (fun j hj => by
    cases hjq : inS gap l ((t - st) % round gap l) j with
    | false => rfl
    | true => have := inS_one h (by omega) hi hjq hin; omega), if_pos ho]
theorem occurrence_nat {st gap : Int} {l : List Sl} (h : planOk st gap l = true) (i : Nat) (hi : i < l.length) (q : Int) : occurrence st gap l (i : Int) q = occ st gap l i q := by
  unfold occurrence
  have : isSlot st gap l (i : Int) = true := by rw [isSlot_iff]; exact ⟨h, by omega, by omega⟩
  rw [if_pos this, show ((i : Int)).toNat = i by omega]
theorem occ_true {st gap : Int} {l : List Sl} {i : Nat} (hi : i < l.length) {q : Int} (h : (occ st gap l i q).2.2 = true) :
    (0 ≤ q ∧ q ≤ 1000000000000 / round gap l) ∧ occ st gap l i q = (st + q * round gap l + upto gap l i, st + q * round gap l + upto gap l i + l[i].f1, true) ∧ st + q * round gap l + upto gap l i + l[i].f1 ≤ 1000000000000 := by
  by_cases hq : 0 ≤ q ∧ q ≤ 1000000000000 / round gap l
  · rw [occ_eq hi hq] at h ⊢; have := ivalT_ok h; have hv := this.2; rw [ivalOk_iff] at hv; exact ⟨hq, this.1, by omega⟩
  · unfold occ at h; rw [if_neg hq] at h; cases h
theorem time_in {st gap : Int} {l : List Sl} (h : planOk st gap l = true) (i : Nat) (hi : i < l.length) (q t : Int) (hq : 0 ≤ q) (h1 : st + q * round gap l + upto gap l i ≤ t) (h2 : t < st + q * round gap l + upto gap l i + l[i].f1) :
    st ≤ t ∧ (t - st) / round gap l = q ∧ (t - st) % round gap l = t - st - q * round gap l ∧ inS gap l ((t - st) % round gap l) i = true := by
  have hr := round_bd h; have hu := upto_bd h i (by omega); have hm := upto_mono h i l.length hi (Nat.le_refl _); have hp := h; rw [planOk_iff] at hp; have hm' : upto gap l i + l[i].f1 + gap ≤ round gap l := hm; have hqr : 0 ≤ q * round gap l := Int.mul_nonneg hq (by omega); have key := (Int.ediv_emod_unique (a := t - st) (b := round gap l) (q := q) (r := t - st - q * round gap l) (by omega)).2 ⟨by rw [Int.mul_comm]; omega, by omega, by omega⟩; refine ⟨by omega, key.1, key.2, ?_⟩
  rw [inS_iff hi, key.2]; omega
theorem slotAt_time {st gap : Int} {l : List Sl} (h : planOk st gap l = true) (i : Nat) (hi : i < l.length) (q t : Int) (ho : (occ st gap l i q).2.2 = true) (h1 : (occ st gap l i q).1 ≤ t) (h2 : t < (occ st gap l i q).2.1) : slotAt st gap l t = ((i : Int), q, true) := by
  obtain ⟨hq, e, hb⟩ := occ_true hi ho; have h1' := h1; have h2' := h2; rw [e] at h1' h2'; simp only at h1' h2'
  obtain ⟨g1, g2, _, _⟩ := time_in h i hi q t hq.1 h1' h2'; have hp := h; rw [planOk_iff] at hp; have := slotAt_of h (t := t) (by omega) g1 i hi (by rw [g2]; exact ho) (by rw [g2]; exact h1) (by rw [g2]; exact h2); rw [this, g2]
end Go.Proofs.Ytllpmpfchidhoaa.C
set_option linter.unusedVariables false
set_option linter.unusedSimpArgs false
namespace Go.Proofs.Ytllpmpfchidhoaa.G
open Go.RowKit Go.Proofs.YtllpmpfchidhoaaW.PrintWords
end Go.Proofs.Ytllpmpfchidhoaa.G

namespace Go.Proofs.Ytllpmpfchidhoaa.C
open Go.RowKit Go.Proofs.Ytllpmpfchidhoaa.P Go.Proofs.Ytllpmpfchidhoaa.G Go.Proofs.YtllpmpfchidhoaaW.PrintWords
def planMoved (st gap : Int) (l : List Sl) (by_ : Int) : Int × Int × List Sl × Bool := if (planOk st gap l && (decide (-1000000000000 ≤ by_ ∧ by_ ≤ 1000000000000) && timeOk (st + by_))) = true then (st + by_, gap, l, true) else (0, 0, [], false)
theorem planMoved_len (st gap : Int) (l : List Sl) (b : Int) : (planMoved st gap l b).2.2.1.length ≤ l.length := by unfold planMoved; split <;> simp
theorem iPlanMoved (st gap : Int) (l : List Sl) (hl : l.length ≤ 1048576) (b : Int) (k : Nat) (hk : 1050000 ≤ k) : impl_PlanMoved.f k st gap l b = some (planMoved st gap l b) := by
  unfold impl_PlanMoved.f planMoved
  rw [iPlanOk st gap l hl _ (by omega), in_, isTime]; simp only [Option.bind_some, slices_Clone_Slot.f]
  cases h : planOk st gap l with
  | false => rw [if_neg (by decide)]; rfl
  | true =>
    have h' := h; rw [planOk_iff] at h'; by_cases h2 : -1000000000000 ≤ b ∧ b ≤ 1000000000000
    · rw [if_pos (by trivial), decide_eq_true h2, if_pos (by trivial), wrap_id (x := st + b) (by omega) (by omega), if_pos (show ([] : List Sl).length + l.length < 8796093022208 by simp; omega)]; simp only [Option.bind_some, Bool.true_and]
      change (if timeOk (st + b) = true then _ else _) = _
      split <;> rfl
    · rw [if_pos (by trivial), decide_eq_false h2, if_neg (by decide)]; rfl
end Go.Proofs.Ytllpmpfchidhoaa.C
namespace Go.Proofs.Ytllpmpfchidhoaa.V
open Go.RowKit Go.Proofs.Ytllpmpfchidhoaa.P Go.Proofs.Ytllpmpfchidhoaa.C Go.Proofs.Ytllpmpfchidhoaa.G
theorem hit_iff {st gap : Int} {l : List Sl} {own t q : Int} {i : Nat} (hi : i < l.length) : hit st gap l own t q i = true ↔ (occ st gap l i q).2.2 = true ∧ l[i].f0 = own ∧ t ≤ (occ st gap l i q).1 := by
  unfold hit; rw [List.getElem?_eq_getElem hi]; simp [and_assoc]
theorem row_true {st gap : Int} {l : List Sl} {own t q : Int} {e : Int × Int × Bool} (h : (rowOf st gap l own t q e).2.2 = true) :
    (∃ i : Nat, i < l.length ∧ hit st gap l own t q i = true ∧ (∀ j, j < i → hit st gap l own t q j = false) ∧ rowOf st gap l own t q e = ((i : Int), (occ st gap l i q).1, true)) ∨ ((∀ j, j < l.length → hit st gap l own t q j = false) ∧ rowOf st gap l own t q e = e) := by
  unfold rowOf at h ⊢
  rcases first_of (Q := hit st gap l own t q) l.length with ⟨j, h1, h2, h3⟩ | h1
  · left; exact ⟨j, h1, h2, h3, found_some h1 h2 h3⟩
  · right; exact ⟨h1, found_none h1⟩
theorem nextOwn_true {st gap : Int} {l : List Sl} {own t : Int} (h : (nextOwn st gap l own t).2.2 = true) : planOk st gap l = true ∧ timeOk t = true ∧ ∃ i : Nat, i < l.length ∧ ∃ q, (q = firstQ st gap l t ∨ q = firstQ st gap l t + 1) ∧
    nextOwn st gap l own t = ((i : Int), (occ st gap l i q).1, true) ∧ hit st gap l own t q i = true ∧ (∀ j, j < i → hit st gap l own t q j = false) ∧ (q = firstQ st gap l t + 1 → ∀ j, j < l.length → hit st gap l own t (firstQ st gap l t) j = false) := by
  unfold nextOwn at h ⊢
  split at h
  · rename_i hc
    rw [if_pos hc]; rw [Bool.and_eq_true] at hc; refine ⟨hc.1, hc.2, ?_⟩
    rcases row_true h with ⟨i, h1, h2, h3, h4⟩ | ⟨h1, h2⟩
    · exact ⟨i, h1, _, .inl rfl, h4, h2, h3, fun e => by omega⟩
    · rw [h2] at h ⊢; rcases row_true h with ⟨i, g1, g2, g3, g4⟩ | ⟨g1, g2⟩
      · exact ⟨i, g1, _, .inr rfl, g4, g2, g3, fun _ => h1⟩
      · rw [g2] at h; cases h
  · cases h
theorem upto_le {st gap : Int} {l : List Sl} (h : planOk st gap l = true) (i j : Nat) (hij : i ≤ j) (hj : j < l.length) : upto gap l i ≤ upto gap l j ∧ upto gap l i + (l[i]'(by omega)).f1 ≤ upto gap l j + l[j].f1 := by
  have hp := h; rw [planOk_iff] at hp; have s1 := slotsOk_get hp.2.2.2 i (by omega); have s2 := slotsOk_get hp.2.2.2 j hj; rcases Nat.lt_or_ge i j with c | c
  · have := upto_mono h i j c (by omega); omega
  · obtain rfl : i = j := by omega
    omega
theorem no_between {st gap : Int} {l : List Sl} (h : planOk st gap l = true) {own t : Int} {i : Nat} (hi : i < l.length) {q : Int} (hq : q = firstQ st gap l t ∨ q = firstQ st gap l t + 1) (hh : hit st gap l own t q i = true) (hb : ∀ j, j < i → hit st gap l own t q j = false)
    (ha : q = firstQ st gap l t + 1 → ∀ j, j < l.length → hit st gap l own t (firstQ st gap l t) j = false) (d : Int) (hd : d = 0 ∨ d = 1) (j : Nat) (hj : j < l.length) (hk : hit st gap l own t (q - d) j = true) : ¬ (occ st gap l j (q - d)).1 < (occ st gap l i q).1 := by
  have hr := round_bd h; rw [hit_iff hi] at hh; have o1 := occ_true hi hh.1; have hk' := hk; rw [hit_iff hj] at hk'; have o2 := occ_true hj hk'.1; rcases hd with rfl | rfl
  · rw [Int.sub_zero] at hk o2 hk' ⊢; have hij : i ≤ j := by
      rcases Nat.lt_or_ge j i with c | c
      · rw [hb j c] at hk; cases hk
      · exact c
    have := upto_le h i j hij hj; rw [o1.2.1, o2.2.1]; simp only; omega
  · rcases hq with e | e
    · exfalso
      have hu := upto_bd h j (by omega); have hm := upto_mono h j l.length hj (Nat.le_refl _); have hm' : upto gap l j + l[j].f1 + gap ≤ round gap l := hm; have hp := h; rw [planOk_iff] at hp; have s1 := slotsOk_get hp.2.2.2 j hj; have ht := hk'.2.2; rw [o2.2.1] at ht; simp only at ht
      have hq1 := o2.1.1; unfold firstQ at e
      split at e
      · omega
      · rename_i hst
        have h1 := Int.mul_ediv_add_emod (t - st) (round gap l); have h2 := Int.emod_nonneg (t - st) (by omega : round gap l ≠ 0); rw [← e, Int.mul_comm] at h1; have h3 : (q - 1) * round gap l = q * round gap l - round gap l := by rw [Int.sub_mul, Int.one_mul]
        rw [h3] at ht; omega
    · have := ha e j hj; rw [show q - 1 = firstQ st gap l t by omega] at hk; rw [this] at hk; cases hk
theorem occ_mk {st gap : Int} {l : List Sl} {i : Nat} (hi : i < l.length) {q : Int} (hq : 0 ≤ q ∧ q ≤ 1000000000000 / round gap l) (h1 : 0 ≤ st + q * round gap l + upto gap l i) (h2 : 0 ≤ l[i].f1) (h3 : st + q * round gap l + upto gap l i + l[i].f1 ≤ 1000000000000) :
    occ st gap l i q = (st + q * round gap l + upto gap l i, st + q * round gap l + upto gap l i + l[i].f1, true) := by
  rw [occ_eq hi hq]; unfold ivalT; rw [if_pos]; rw [ivalOk_iff]; omega
theorem hit_back {st gap : Int} {l : List Sl} {v own t q : Int} (h : planOk st gap l = true) (hv : 0 ≤ v) {i : Nat} (hi : i < l.length) (hh : hit (st + v) gap l own (t + v) q i = true) :
    hit st gap l own t q i = true ∧ (occ (st + v) gap l i q).1 = (occ st gap l i q).1 + v := by
  rw [hit_iff hi] at hh ⊢; have o1 := occ_true hi hh.1; have hr := round_bd h; have hqb := q_bd hr.1 o1.1; have hu := upto_bd h i (by omega); have hp := h; rw [planOk_iff] at hp; have s1 := slotsOk_get hp.2.2.2 i hi; have o2 := occ_mk (st := st) hi o1.1 (by omega) (by omega) (by omega); have h3 := hh.2.2; rw [o1.2.1] at h3 ⊢; rw [o2]; simp only at h3 ⊢
  exact ⟨⟨trivial, hh.2.1, by omega⟩, by omega⟩
theorem hit_forth {st gap : Int} {l : List Sl} {v own t q : Int} (h : planOk st gap l = true) (hv : 0 ≤ v) {i : Nat} (hi : i < l.length) (hh : hit st gap l own t q i = true) (hb : (occ st gap l i q).2.1 + v ≤ 1000000000000) : hit (st + v) gap l own (t + v) q i = true := by
  rw [hit_iff hi] at hh ⊢; have o1 := occ_true hi hh.1; have hr := round_bd h; have hqb := q_bd hr.1 o1.1; have hu := upto_bd h i (by omega); have hp := h; rw [planOk_iff] at hp; have s1 := slotsOk_get hp.2.2.2 i hi; have h3 := hh.2.2; rw [o1.2.1] at h3 hb; simp only at h3 hb
  have o2 := occ_mk (st := st + v) hi o1.1 (by omega) (by omega) (by omega); rw [o2]; simp only
  exact ⟨trivial, hh.2.1, by omega⟩
theorem moved_next {st gap : Int} {l : List Sl} {own t v : Int} (hv : 0 ≤ v) (h : planOk st gap l = true) {i : Nat} (hi : i < l.length) {q : Int} (hq : q = firstQ st gap l t ∨ q = firstQ st gap l t + 1) (hh : hit st gap l own t q i = true) (hb : ∀ j, j < i → hit st gap l own t q j = false)
    (ha : q = firstQ st gap l t + 1 → ∀ j, j < l.length → hit st gap l own t (firstQ st gap l t) j = false) (hm : (nextOwn (st + v) gap l own (t + v)).2.2 = true) : nextOwn (st + v) gap l own (t + v) = ((i : Int), (occ st gap l i q).1 + v, true) := by
  obtain ⟨_, _, i', hi', q', hq', e', hh', hb', ha'⟩ := nextOwn_true hm; have hf : firstQ (st + v) gap l (t + v) = firstQ st gap l t := by
    unfold firstQ
    by_cases c : t < st
    · rw [if_pos c, if_pos (by omega)]
    · rw [if_neg c, if_neg (by omega), show t + v - (st + v) = t - st by omega]
  rw [hf] at hq' ha'; have hr := round_bd h; have hbk := hit_back h hv hi' hh'; have hp := h; rw [planOk_iff] at hp; have s1 := slotsOk_get hp.2.2.2 i hi; have s2 := slotsOk_get hp.2.2.2 i' hi'; have h1 := hh; rw [hit_iff hi] at h1; have o1 := occ_true hi h1.1; have h2 := hh'; rw [hit_iff hi'] at h2; have o2 := occ_true hi' h2.1; have h3 := hbk.1; rw [hit_iff hi'] at h3; have o3 := occ_true hi' h3.1; have same : q' = q → i' = i := by
    intro e; subst e; have c1 : i ≤ i' := by
      rcases Nat.lt_or_ge i' i with c | c
      · have := hb i' c; rw [hbk.1] at this; cases this
      · exact c
    have := upto_le h i i' c1 hi'; have hfo := hit_forth (v := v) h hv hi hh (by rw [o1.2.1]; simp only; omega); rcases Nat.lt_or_ge i i' with c | c
    · have := hb' i c; rw [hfo] at this; cases this
    · omega
  have hqq : q' = q := by
    rcases hq with e | e
    · rcases hq' with e2 | e2
      · omega
      · exfalso
        have hm1 := upto_mono h i l.length hi (Nat.le_refl _); have hm' : upto gap l i + l[i].f1 + gap ≤ round gap l := hm1; have hu := upto_bd h i' (by omega); have e3 : q' = q + 1 := by omega
        have e4 : q' * round gap l = q * round gap l + round gap l := by rw [e3, Int.add_mul, Int.one_mul]
        have hfo := hit_forth (v := v) h hv hi hh (by rw [o1.2.1]; simp only; rw [e4] at o2; omega); have := ha' e2 i hi; rw [← e] at this; rw [hfo] at this; cases this
    · rcases hq' with e2 | e2
      · exfalso
        have := ha e i' hi'; rw [← e2, hbk.1] at this; cases this
      · omega
  have hii := same hqq; rw [e', hbk.2, hii, hqq]
theorem nextL {st gap : Int} {l : List Sl} (hl : l.length ≤ 13) (h : planOk st gap l = true) {own t : Int} (ht : timeOk t = true) {i : Nat} (hi : i < l.length) {q : Int} (hq : q = firstQ st gap l t ∨ q = firstQ st gap l t + 1) (hh : hit st gap l own t q i = true) (hb : ∀ j, j < i → hit st gap l own t q j = false)
    (ha : q = firstQ st gap l t + 1 → ∀ j, j < l.length → hit st gap l own t (firstQ st gap l t) j = false) (s : List Int) (hs : s.length ≤ 1048576) (hw : ∀ y ∈ s, (Lit.int .u8 y).wf = true) (k : Nat) (hk : 1060000 ≤ k) :
    laws_FnNextOwn.l0 k s own t (i : Int) (occ st gap l i q).1 q 0 st gap l = some true := by
  have hh' := hh; rw [hit_iff hi] at hh'; have o1 := occ_true hi hh'.1; have hr := round_bd h; have hqb := q_bd hr.1 o1.1; have hp := h; rw [planOk_iff] at hp; rw [timeOk_iff] at ht; have hu := upto_bd h i (by omega); have s1 := slotsOk_get hp.2.2.2 i hi; refine track_loop0 (n := 2 * l.length) (c := 1050300) (σ := Unit) (F := fun _ => ()) (L := fun k _ x => laws_FnNextOwn.l0 k s own t (i : Int) (occ st gap l i q).1 q x st gap l) (fun k x hx hk => ?_) (fun k hk => ?_) k (by omega)
  · simp only [laws_FnNextOwn.l0]
    have e1 : Int.tmod (x : Int) (l.length : Int) = ((x % l.length : Nat) : Int) := rfl; have e2 : Int.tdiv (x : Int) (l.length : Int) = ((x / l.length : Nat) : Int) := rfl; have hdl : x / l.length < 2 := Nat.div_lt_of_lt_mul (by omega); have hml : x % l.length < l.length := Nat.mod_lt _ (by omega); generalize x / l.length = dd at hdl e2
    generalize x % l.length = mm at hml e1
    rw [wrap_id (x := 2 * (l.length : Int)) (by omega) (by omega), if_pos (by omega), if_neg (by omega), e1, e2, wrap_id (x := (dd : Int)) (by omega) (by omega), wrap_id (x := q - (dd : Int)) (by omega) (by omega), iOccurrence st gap l (by omega) _ _ _ (by omega), Option.bind_some, occurrence_nat h _ hml, wrap_succ hx (by omega)]
    cases ho : (occ st gap l mm (q - (dd : Int))).2.2 with
    | false => rw [if_neg (by decide)]
    | true =>
      rw [if_pos rfl, if_pos (by omega), if_pos (by omega), rdSl l _ hml]; by_cases c1 : l[mm].f0 = own
      · rw [if_pos c1]; by_cases c2 : (occ st gap l mm (q - (dd : Int))).1 ≥ t
        · rw [if_pos c2, if_neg]; exact no_between h hi hq hh hb ha _ (by omega) _ hml ((hit_iff hml).2 ⟨ho, c1, c2⟩)
        · rw [if_neg c2]
      · rw [if_neg c1]
  · simp only [laws_FnNextOwn.l0]
    rw [wrap_id (x := 2 * (l.length : Int)) (by omega) (by omega), if_neg (by omega)]; obtain ⟨v, e1, v1, v2⟩ := dAt s hs hw 1 (by omega); rw [e1, Option.bind_some, iPlanMoved st gap l (by omega) v _ (by omega), Option.bind_some, iNextOwn _ _ _ (by have := planMoved_len st gap l v; omega) _ _ _ (by omega), Option.bind_some]
    cases hc : timeOk (st + v) with
    | false =>
      have hpm : planMoved st gap l v = (0, 0, [], false) := by unfold planMoved; rw [hc]; simp
      rw [hpm]; rfl
    | true =>
      have hpm : planMoved st gap l v = (st + v, gap, l, true) := by unfold planMoved; rw [h, hc, decide_eq_true (show -1000000000000 ≤ v ∧ v ≤ 1000000000000 by omega)]; rfl
      rw [hpm]; dsimp only
      rw [if_pos (by trivial), wrap_id (x := t + v) (by omega) (by omega)]
      cases hm : (nextOwn (st + v) gap l own (t + v)).2.2 with
      | false => simp
      | true =>
        rw [moved_next v1 h hi hq hh hb ha hm, o1.2.1]; simp only
        rw [if_pos trivial, if_pos trivial, wrap_id (by omega) (by omega), beq_self_eq_true]
theorem FnNextOwn : ∀ (l0 : List Int), (l0.length ≤ 9223372036854775807 ∧ ∀ y ∈ l0, (Lit.int .u8 y).wf = true) → ∃ k, laws_FnNextOwn.f k l0 = some true := by
  intro s ⟨hs, hb⟩; refine ⟨2000000, ?_⟩
  unfold laws_FnNextOwn.f
  rw [dBig, Option.bind_some]; by_cases hbig : (s.length : Int) > 1048576
  · rw [decide_eq_true hbig, if_pos rfl]
  rw [decide_eq_false hbig, if_neg (by decide)]; obtain ⟨st, gap, l, own, t, e, hl⟩ := dNextOwn s (by omega) 2000000 (by omega); rw [e, Option.bind_some]; simp only
  rw [iNextOwn st gap l (by omega) own t _ (by omega), Option.bind_some, sNextOwn st gap l (by omega) own t _ (by omega), Option.bind_some, bne_self_eq_false, if_neg (by decide)]
  cases ho : (nextOwn st gap l own t).2.2 with
  | false =>
    rw [if_neg (by decide), iPlanOk 0 0 [] (by simp) _ (by simp), Option.bind_some]; have : planOk 0 0 [] = false := by decide
    rw [this]; rfl
  | true =>
    rw [if_pos rfl]; obtain ⟨h, ht, i, hi, q, hq, en, hh, hbf, haf⟩ := nextOwn_true ho; rw [en]; simp only
    have hh' := hh; rw [hit_iff hi] at hh'; have o1 := occ_true hi hh'.1; rw [if_neg (by omega), if_neg (by omega), if_neg (by omega), if_pos (by omega), if_pos (by omega), rdSl l i hi, hh'.2.1, bne_self_eq_false]; rw [show (2000000 : Nat) = 1999999 + 1 by omega]; simp only [laws_FnNextOwn.j0]
    have hp := h; rw [planOk_iff] at hp; have s1 := slotsOk_get hp.2.2.2 i hi; have hsa := slotAt_time h i hi q (occ st gap l i q).1 hh'.1 (Int.le_refl _) (by rw [o1.2.1]; simp only; omega); rw [if_neg (by decide), iSlotAt st gap l (by omega) _ _ (by omega), Option.bind_some, hsa]; simp only
    rw [if_pos trivial, bne_self_eq_false, show (1999999 : Nat) = 1999998 + 1 by omega]; simp only [laws_FnNextOwn.j1]
    rw [if_neg (by decide)]; exact nextL hl h ht hi hq hh hbf haf s (by omega) hb _ (by omega)
end Go.Proofs.Ytllpmpfchidhoaa.V
namespace Go.Proofs.Ytllpmpfchidhoaa.Args
open Go.ChangeShapes Go.WideShapes Go.Deep Go.Proofs.YtllpmpfchidhoaaW.PrintWords
def Opens (P : Program) (t : TypeId) {α : Type} (d : Kd α) (B : α → Prop) : Prop :=
  ∀ {H : Type} {enc : TypeId × Value → H} {w : World} {base : Nat} {spare : Nat → Bool} {held : Bool} {fuel : Nat} {cs : List Value} {x : DataW H × List MemPlace},
    DataW.trod enc P w base spare held fuel t cs = some x → ∃ a, d.K w a cs ∧ B a
theorem open_row {H : Type} {enc : TypeId × Value → H} {P : Program} {w : World} {base : Nat} {spare : Nat → Bool} {held : Bool} {fuel : Nat} {t e : TypeId} {c : Value} {x : DataW H × List MemPlace} {α : Type} {d : Kd α} {B : α → Prop} (z : α)
    (ht : P.underlying t = some (.slice e)) (hsz : P.cellsOf e = d.sz) (he : Opens P e d B) (h : DataW.trod enc P w base spare held fuel t [c] = some x) :
    ∃ A cap l, c = .slice A l.length cap ∧ Kd.C d w A l.length l ∧ l.length ≤ cap ∧ l.length ≤ 9223372036854775807 ∧ ∀ y ∈ l, B y := by
  haveI : Inhabited α := ⟨z⟩
  rcases open_slice ht h with ⟨hc, _⟩ | ⟨a, len, cap, m, n, D, Pl, hc, _, hl, hm, hmm, _, hx⟩
  · obtain rfl := List.head_eq_of_cons_eq hc; exact ⟨none, 0, [], rfl, Kd.C_nil _ _, Nat.le_refl _, by simp, fun y hy => by cases hy⟩
  · obtain rfl := List.head_eq_of_cons_eq hc; have hlm : len ≤ m := by rw [hmm]; split <;> omega
    obtain ⟨f, hf⟩ := choose_lt (α := α) (n := len) (p := fun i y => (∃ c', c'.length = d.sz ∧ d.K w y c' ∧ ∀ k u, c'[k]? = some u → w.cell? (a.add (i * d.sz + k)) = some u) ∧ B y) (fun i hi => by
      obtain ⟨cs', h1, h2⟩ := hx i (by omega); obtain ⟨y, hk, hb⟩ := he h2; refine ⟨y, ⟨cs', d.K_len hk, hk, fun k u hu => ?_⟩, hb⟩
      obtain ⟨_, hlen, hcell⟩ := World.cells?_some h1; have hk2 : k < cs'.length := (List.getElem?_eq_some_iff.1 hu).1; have := hcell k (by omega); rw [hsz, Addr.add_add] at this; rw [this, hu])
    have hmax : len ≤ 9223372036854775807 := by unfold maxLen at hm; omega
    refine ⟨some a, cap, (List.range len).map f, by simp, ⟨by simp, by simpa using hmax, fun _ => ⟨a, rfl, fun j p hj => ?_⟩⟩, by simpa using hl, by simpa using hmax, fun y hy => ?_⟩
    · have hj2 : j < len := by simpa using (List.getElem?_eq_some_iff.1 hj).1
      rw [List.getElem?_map, List.getElem?_range hj2] at hj; obtain rfl := Option.some.inj hj; exact (hf j hj2).1
    · obtain ⟨j, hj, rfl⟩ := List.mem_map.1 hy; exact (hf j (List.mem_range.1 hj)).2
theorem opens_int {P : Program} {t : TypeId} {k : IntKind} (ht : P.underlying t = some (.int k)) : Opens P t (Kd.int k) (fun x => (Lit.int k x).wf = true) := by
  intro H enc w base spare held fuel cs x h; obtain ⟨n, rfl, _, hw⟩ := DataW.trod_int ht h; exact ⟨n, rfl, hw⟩
end Go.Proofs.Ytllpmpfchidhoaa.Args
