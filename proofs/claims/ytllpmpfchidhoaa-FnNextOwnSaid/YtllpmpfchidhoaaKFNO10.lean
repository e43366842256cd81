/- Texts of the seat's proofs, part 10: functions of the program told as plain functions, with their contracts, and what is shown of them. No condition. -/
import Derived.Test.YtllpmpfchidhoaaUKFNO
import Derived.Test.YtllpmpfchidhoaaKFNO1
import Derived.Test.YtllpmpfchidhoaaKFNO2
import Derived.Test.YtllpmpfchidhoaaKFNO3
import Derived.Test.YtllpmpfchidhoaaKFNO7
import Derived.Test.YtllpmpfchidhoaaKFNO4
import Derived.Test.YtllpmpfchidhoaaKFNO9
import Derived.Test.YtllpmpfchidhoaaKFNO8
import Derived.Test.YtllpmpfchidhoaaKFNO5
set_option linter.unusedVariables false
set_option linter.unusedSimpArgs false
namespace Go.Proofs.Ytllpmpfchidhoaa.P
open Go.RowKit Go.Proofs.YtllpmpfchidhoaaW.PrintWords Go.Proofs.YtllpmpfchidhoaaW.PrintLast Go.Proofs.YtllpmpfchidhoaaW.PrintMore
attribute [local go_sem] max2_int min2_int max_two min_two max_three min_three max_four min_four
set_option linter.unusedVariables false
set_option linter.unusedSimpArgs false
end Go.Proofs.Ytllpmpfchidhoaa.P

namespace Go.Proofs.Ytllpmpfchidhoaa.C
open Go.RowKit Go.Proofs.Ytllpmpfchidhoaa.P Go.Proofs.Ytllpmpfchidhoaa.G Go.Proofs.YtllpmpfchidhoaaW.PrintWords
theorem dTimeJ (s : List Int) (p z a b : Int) (bad : Bool) (h : At s p) (k : Nat) (hk : 1 ≤ k) : ∃ v p' z', spec_l13DrawTime.j0 k bad s p z a b = some (v, p', z') ∧ At s p' := by
  obtain ⟨k, rfl⟩ : ∃ j, k = j + 1 := ⟨k - 1, by omega⟩; simp only [spec_l13DrawTime.j0]
  split
  · obtain ⟨v, p1, z1, e1, a1, _⟩ := dCount s p z h; rw [e1]; exact ⟨_, _, _, rfl, a1⟩
  · obtain ⟨v, p1, z1, e1, a1, _⟩ := dPick s p z [a, b, wrap64 (a - 1), wrap64 (b - 1), wrap64 (Int.tdiv (wrap64 (a + b)) 2)] h (by simp) (by simp); rw [e1]; exact ⟨_, _, _, rfl, a1⟩
theorem dTime (s : List Int) (p z : Int) (h : At s p) (st gap : Int) (l : List Sl) (hl : l.length ≤ 1048576) (k : Nat) (hk : 1050200 ≤ k) : ∃ v p' z', spec_l13DrawTime.f k s p z st gap l = some (v, p', z') ∧ At s p' := by
  unfold spec_l13DrawTime.f
  obtain ⟨i, p1, z1, e1, a1, _⟩ := dBelow s p z (l.length : Int) h; rw [e1]; simp only [Option.bind_some]; obtain ⟨q, p2, z2, e2, a2, _⟩ := dBelow s p1 z1 5 a1; rw [e2]; simp only [Option.bind_some]; rw [sOccurrence st gap l hl i q k (by omega)]; simp only [Option.bind_some]; split
  · obtain ⟨o, p3, z3, e3, a3⟩ := dOnce s p2 z2 6 a2; rw [e3]; simp only [Option.bind_some]; exact dTimeJ s p3 z3 _ _ _ a3 k (by omega)
  · exact dTimeJ s p2 z2 _ _ _ a2 k (by omega)
theorem find_loopC {n : Nat} {ρ : Type} {L : Nat → Int → Option ρ} {Q : Nat → Bool} {r : Nat → ρ} {e : ρ} {c : Nat}
    (hs : ∀ k i, i < n → c ≤ k → L (k + 1) (i : Int) = if Q i = true then some (r i) else L k ((i + 1 : Nat) : Int))
    (he : ∀ k, c ≤ k → L (k + 1) (n : Int) = some e) :
    ∀ d i k, i + d = n → d + c < k → L k (i : Int) = some (found Q r e (List.range' i d)) := by
  intro d; induction d with
  | zero =>
    intro i k h hk; obtain ⟨k, rfl⟩ : ∃ m, k = m + 1 := ⟨k - 1, by omega⟩; obtain rfl : i = n := by omega
    rw [he _ (by omega)]; rfl
  | succ d ih =>
    intro i k h hk; obtain ⟨k, rfl⟩ : ∃ m, k = m + 1 := ⟨k - 1, by omega⟩; rw [hs k i (by omega) (by omega), List.range'_succ]; unfold found
    cases hq : Q i with
    | true => simp [List.find?, hq]
    | false =>
      rw [if_neg (by simp), ih (i + 1) k (by omega) (by omega)]; simp [List.find?, hq, found]
theorem find_loopC0 {n : Nat} {ρ : Type} {L : Nat → Int → Option ρ} {Q : Nat → Bool} {r : Nat → ρ} {e : ρ} {c : Nat}
    (hs : ∀ k i, i < n → c ≤ k → L (k + 1) (i : Int) = if Q i = true then some (r i) else L k ((i + 1 : Nat) : Int))
    (he : ∀ k, c ≤ k → L (k + 1) (n : Int) = some e) (k : Nat) (hk : n + c < k) : L k 0 = some (found Q r e (List.range n)) := by
  have := find_loopC hs he n 0 k (by omega) hk; rw [List.range_eq_range']; exact this
def hit (st gap : Int) (l : List Sl) (own t q : Int) (i : Nat) : Bool := (occ st gap l i q).2.2 && (match l[i]? with | some x => x.f0 == own | none => false) && decide (t ≤ (occ st gap l i q).1)
def rowOf (st gap : Int) (l : List Sl) (own t q : Int) (e : Int × Int × Bool) : Int × Int × Bool := found (hit st gap l own t q) (fun i => ((i : Int), (occ st gap l i q).1, true)) e (List.range l.length)
def firstQ (st gap : Int) (l : List Sl) (t : Int) : Int := if t < st then 0 else (t - st) / round gap l
def nextOwn (st gap : Int) (l : List Sl) (own t : Int) : Int × Int × Bool :=
  if (planOk st gap l && timeOk t) = true then rowOf st gap l own t (firstQ st gap l t) (rowOf st gap l own t (firstQ st gap l t + 1) (0, 0, false)) else (0, 0, false)
theorem firstQ_bd {st gap : Int} {l : List Sl} (h : planOk st gap l = true) {t : Int} (ht : 0 ≤ t ∧ t ≤ 1000000000000) : 0 ≤ firstQ st gap l t ∧ firstQ st gap l t ≤ 1000000000000 := by
  have hr := round_bd h; rw [planOk_iff] at h; unfold firstQ
  split
  · omega
  · have h1 := Int.ediv_le_self (round gap l) (show 0 ≤ t - st by omega); have h2 := Int.ediv_nonneg (show 0 ≤ t - st by omega) (show 0 ≤ round gap l by omega); omega
theorem sRow {st gap : Int} {l : List Sl} (h : planOk st gap l = true) (own t q0 q : Int) (e : Int × Int × Bool) (c : Nat) (hc : 40 ≤ c) (he : ∀ k, c ≤ k → spec_NextOwn.l0 k own t q0 (wrap64 (q + 1)) st gap l = some e) (k : Nat) (hk : 12 + c < k) : spec_NextOwn.l1 k own t q0 q 0 st gap l = some (rowOf st gap l own t q e) := by
  have h' := h; rw [planOk_iff] at h'; unfold rowOf
  refine find_loopC0 (n := l.length) (c := c) (L := fun k i => spec_NextOwn.l1 k own t q0 q i st gap l) (fun k i hi hk => ?_) (fun k hk => ?_) k (by omega)
  · simp only [spec_NextOwn.l1]
    rw [if_pos (by omega), wrap_succ hi (by omega), sOcc h i hi _ _ (by omega)]; simp only [Option.bind_some]
    unfold hit
    rw [List.getElem?_eq_getElem hi]
    cases (occ st gap l i q).2.2 with
    | false => simp
    | true =>
      rw [if_pos rfl, if_pos (by omega), rdSl l i hi]; by_cases h1 : l[i].f0 = own
      · rw [if_pos h1]; by_cases h2 : t ≤ (occ st gap l i q).1
        · rw [if_pos (by omega), if_pos (by simp [h1, h2])]
        · rw [if_neg (by omega), if_neg (by simp [h2])]
      · rw [if_neg h1, if_neg (by simp [h1])]
  · simp only [spec_NextOwn.l1]
    rw [if_neg (by omega)]; exact he k hk
theorem iRow {st gap : Int} {l : List Sl} (h : planOk st gap l = true) (own t q0 q : Int) (e : Int × Int × Bool) (c : Nat) (hc : 40 ≤ c) (he : ∀ k, c ≤ k → impl_NextOwn.l0 k own t q0 (wrap64 (q + 1)) st gap l = some e) (k : Nat) (hk : 12 + c < k) : impl_NextOwn.l1 k own t q0 q l (l.length : Int) 0 st gap l = some (rowOf st gap l own t q e) := by
  have h' := h; rw [planOk_iff] at h'; unfold rowOf
  refine find_loopC0 (n := l.length) (c := c) (L := fun k i => impl_NextOwn.l1 k own t q0 q l (l.length : Int) i st gap l) (fun k i hi hk => ?_) (fun k hk => ?_) k (by omega)
  · simp only [impl_NextOwn.l1]
    rw [if_pos (by omega), if_pos (by omega), if_pos (by omega), wrap_succ hi (by omega), iOcc h i hi _ _ (by omega)]; simp only [Option.bind_some]
    unfold hit
    rw [List.getElem?_eq_getElem hi]
    cases (occ st gap l i q).2.2 with
    | false => simp
    | true =>
      rw [if_pos rfl, rdSl l i hi]; by_cases h1 : l[i].f0 = own
      · rw [if_pos h1]; by_cases h2 : t ≤ (occ st gap l i q).1
        · rw [if_pos (by omega), if_pos (by simp [h1, h2])]
        · rw [if_neg (by omega), if_neg (by simp [h2])]
      · rw [if_neg h1, if_neg (by simp [h1])]
  · simp only [impl_NextOwn.l1]
    rw [if_neg (by omega)]; exact he k hk
theorem max0 (a : Int) : spec_l1Max.f 0 a = some (mx 0 a) := by
  unfold spec_l1Max.f mx
  split
  · rw [if_neg (by omega)]
  · split
    · rfl
    · congr 1; omega
theorem sNextOwn (st gap : Int) (l : List Sl) (hl : l.length ≤ 1048576) (own t : Int) (k : Nat) (hk : 1050000 ≤ k) : spec_NextOwn.f k st gap l own t = some (nextOwn st gap l own t) := by
  obtain ⟨k, rfl⟩ : ∃ j, k = j + 2 := ⟨k - 2, by omega⟩; have hj : spec_NextOwn.j0 (k + 2) own t true st gap l = some (0, 0, false) := by simp [spec_NextOwn.j0]
  unfold spec_NextOwn.f nextOwn
  rw [sPlanOk st gap l hl _ (by omega), l2Time]; simp only [Option.bind_some]
  change (if planOk st gap l = true then spec_NextOwn.j0 (k + 2) own t (!timeOk t) st gap l else _) = _
  cases h : planOk st gap l with
  | false => rw [hj]; rfl
  | true =>
    cases h2 : timeOk t with
    | false => rw [Bool.not_false, hj]; rfl
    | true =>
      rw [timeOk_iff] at h2; have hr := round_bd h; have hq := firstQ_bd h h2; have h' := h; rw [planOk_iff] at h'; simp only [spec_NextOwn.j0]
      rw [if_pos (by trivial), Bool.not_true, if_neg (by decide), sRoundOf' h _ (by omega)]; simp only [Option.bind_some]
      rw [if_neg (by omega), max0, Bool.and_self, if_pos rfl]; have e : mx 0 (wrap64 (Int.tdiv (wrap64 (t - st)) (round gap l))) = firstQ st gap l t := by
        rw [wrap_id (x := t - st) (by omega) (by omega)]; unfold firstQ
        split
        · have h3 : Int.tdiv (t - st) (round gap l) ≤ 0 := by
            have := Int.neg_tdiv (a := -(t - st)) (b := round gap l); have h4 := Int.tdiv_nonneg (show 0 ≤ -(t - st) by omega) (show 0 ≤ round gap l by omega); rw [Int.neg_neg] at this; omega
          have h5 : -(t - st) ≥ -Int.tdiv (t - st) (round gap l) := by
            have h6 : Int.tdiv (-(t - st)) (round gap l) ≤ -(t - st) := by
              rw [Int.tdiv_eq_ediv_of_nonneg (by omega)]; exact Int.ediv_le_self _ (by omega)
            rw [Int.neg_tdiv] at h6; omega
          rw [wrap_id (by omega) (by omega)]; unfold mx; split <;> omega
        · have h3 := Int.ediv_le_self (round gap l) (show 0 ≤ t - st by omega); have h4 := Int.ediv_nonneg (show 0 ≤ t - st by omega) (show 0 ≤ round gap l by omega); rw [Int.tdiv_eq_ediv_of_nonneg (by omega), wrap_id (by omega) (by omega)]; unfold mx; split <;> omega
      rw [e]; simp only [Option.bind_some]
      simp only [spec_NextOwn.l0]
      rw [wrap_id (x := firstQ st gap l t + 1) (by omega) (by omega), if_pos (by omega)]; refine sRow h own t _ _ _ 100 (by omega) (fun k hk => ?_) k (by omega)
      obtain ⟨k, rfl⟩ : ∃ j, k = j + 1 := ⟨k - 1, by omega⟩; simp only [spec_NextOwn.l0]
      rw [wrap_id (x := firstQ st gap l t + 1) (by omega) (by omega), if_pos (by omega)]; refine sRow h own t _ _ _ 40 (by omega) (fun k hk => ?_) k (by omega)
      obtain ⟨k, rfl⟩ : ∃ j, k = j + 1 := ⟨k - 1, by omega⟩; simp only [spec_NextOwn.l0]
      rw [wrap_id (x := firstQ st gap l t + 1) (by omega) (by omega), wrap_id (x := firstQ st gap l t + 1 + 1) (by omega) (by omega), if_neg (by omega)]
theorem iNextOwn (st gap : Int) (l : List Sl) (hl : l.length ≤ 1048576) (own t : Int) (k : Nat) (hk : 1050000 ≤ k) : impl_NextOwn.f k st gap l own t = some (nextOwn st gap l own t) := by
  obtain ⟨k, rfl⟩ : ∃ j, k = j + 2 := ⟨k - 2, by omega⟩; have hj : impl_NextOwn.j0 (k + 2) own t true st gap l = some (0, 0, false) := by simp [impl_NextOwn.j0]
  unfold impl_NextOwn.f nextOwn
  rw [iPlanOk st gap l hl _ (by omega), isTime]; simp only [Option.bind_some]
  change (if planOk st gap l = true then impl_NextOwn.j0 (k + 2) own t (!timeOk t) st gap l else _) = _
  cases h : planOk st gap l with
  | false => rw [hj]; rfl
  | true =>
    cases h2 : timeOk t with
    | false => rw [Bool.not_false, hj]; rfl
    | true =>
      rw [timeOk_iff] at h2; have hr := round_bd h; have hq := firstQ_bd h h2; have h' := h; rw [planOk_iff] at h'; simp only [impl_NextOwn.j0]
      rw [if_pos (by trivial), Bool.not_true, if_neg (by decide), iRound h _ (by omega)]; simp only [Option.bind_some]
      rw [if_neg (by omega), Bool.and_self, if_pos rfl]; have e : wrap64 (Int.tdiv (mx 0 (wrap64 (t - st))) (round gap l)) = firstQ st gap l t := by
        rw [wrap_id (x := t - st) (by omega) (by omega)]; unfold firstQ mx
        by_cases h3 : t < st
        · rw [if_pos h3, if_neg (by omega), Int.zero_tdiv]; exact wrap_id (by omega) (by omega)
        · rw [if_neg h3]; have h3' := Int.ediv_le_self (round gap l) (show 0 ≤ t - st by omega); have h4 := Int.ediv_nonneg (show 0 ≤ t - st by omega) (show 0 ≤ round gap l by omega); have : (if 0 < t - st then t - st else 0) = t - st := by split <;> omega
          rw [this, Int.tdiv_eq_ediv_of_nonneg (by omega), wrap_id (by omega) (by omega)]
      rw [e]; simp only [impl_NextOwn.l0]
      rw [wrap_id (x := firstQ st gap l t + 1) (by omega) (by omega), if_pos (by omega)]; refine iRow h own t _ _ _ 100 (by omega) (fun k hk => ?_) k (by omega)
      obtain ⟨k, rfl⟩ : ∃ j, k = j + 1 := ⟨k - 1, by omega⟩; simp only [impl_NextOwn.l0]
      rw [wrap_id (x := firstQ st gap l t + 1) (by omega) (by omega), if_pos (by omega)]; refine iRow h own t _ _ _ 40 (by omega) (fun k hk => ?_) k (by omega)
      obtain ⟨k, rfl⟩ : ∃ j, k = j + 1 := ⟨k - 1, by omega⟩; simp only [impl_NextOwn.l0]
      rw [wrap_id (x := firstQ st gap l t + 1) (by omega) (by omega), wrap_id (x := firstQ st gap l t + 1 + 1) (by omega) (by omega), if_neg (by omega)]
end Go.Proofs.Ytllpmpfchidhoaa.C
