/- Texts of the seat's proofs, part 7: functions of the program told as plain functions, with their contracts, and what is shown of them. No condition. -/
import Derived.Test.YtllpmpfchidhoaaUKFNO
import Derived.Test.YtllpmpfchidhoaaKFNO1
import Derived.Test.YtllpmpfchidhoaaKFNO3
import Derived.Laws.Bits128
import Derived.Test.YtllpmpfchidhoaaKFNO2
import Derived.Test.YtllpmpfchidhoaaKFNO4
set_option linter.unusedVariables false
set_option linter.unusedSimpArgs false
namespace Go.Proofs.Ytllpmpfchidhoaa.G
open Go.RowKit Go.Proofs.YtllpmpfchidhoaaW.PrintWords
theorem wrap_id {x : Int} (h1 : -9223372036854775808 ≤ x) (h2 : x ≤ 9223372036854775807) : wrap64 x = x := by unfold wrap64; omega
theorem wrap_succ {i n : Nat} (h : i < n) (hn : n ≤ 9223372036854775807) : wrap64 ((i : Int) + 1) = ((i + 1 : Nat) : Int) := by unfold wrap64; omega
theorem all_loop {n : Nat} {L : Nat → Int → Option Bool} {Q : Nat → Bool} {e : Bool}
    (hs : ∀ k i, i < n → L (k + 1) (i : Int) = if Q i = true then L k ((i + 1 : Nat) : Int) else some false)
    (he : ∀ k, L (k + 1) (n : Int) = some e) :
    ∀ d i k, i + d = n → d < k → L k (i : Int) = some ((List.range' i d).all Q && e) := by
  intro d; induction d with
  | zero =>
    intro i k h hk; obtain ⟨k, rfl⟩ : ∃ m, k = m + 1 := ⟨k - 1, by omega⟩; obtain rfl : i = n := by omega
    rw [he]; simp
  | succ d ih =>
    intro i k h hk; obtain ⟨k, rfl⟩ : ∃ m, k = m + 1 := ⟨k - 1, by omega⟩; rw [hs k i (by omega)]; rw [List.range'_succ]
    cases hq : Q i with
    | true => rw [if_pos rfl, ih (i + 1) k (by omega) (by omega)]; simp [hq]
    | false => simp [hq]
theorem all_loop0 {n : Nat} {L : Nat → Int → Option Bool} {Q : Nat → Bool} {e : Bool}
    (hs : ∀ k i, i < n → L (k + 1) (i : Int) = if Q i = true then L k ((i + 1 : Nat) : Int) else some false)
    (he : ∀ k, L (k + 1) (n : Int) = some e) (k : Nat) (hk : n < k) : L k 0 = some ((List.range n).all Q && e) := by
  have := all_loop hs he n 0 k (by omega) hk; rw [List.range_eq_range']; exact this
def found {ρ : Type} (Q : Nat → Bool) (r : Nat → ρ) (e : ρ) (is : List Nat) : ρ := match is.find? Q with
  | some j => r j
  | none => e
theorem find_loop {n : Nat} {ρ : Type} {L : Nat → Int → Option ρ} {Q : Nat → Bool} {r : Nat → ρ} {e : ρ} {c : Nat}
    (hs : ∀ k i, i < n → c ≤ k → L (k + 1) (i : Int) = if Q i = true then some (r i) else L k ((i + 1 : Nat) : Int))
    (he : ∀ k, L (k + 1) (n : Int) = some e) :
    ∀ d i k, i + d = n → d + c < k → L k (i : Int) = some (found Q r e (List.range' i d)) := by
  intro d; induction d with
  | zero =>
    intro i k h hk; obtain ⟨k, rfl⟩ : ∃ m, k = m + 1 := ⟨k - 1, by omega⟩; obtain rfl : i = n := by omega
    rw [he]; rfl
  | succ d ih =>
    intro i k h hk; obtain ⟨k, rfl⟩ : ∃ m, k = m + 1 := ⟨k - 1, by omega⟩; rw [hs k i (by omega) (by omega), List.range'_succ]; unfold found
    cases hq : Q i with
    | true => simp [List.find?, hq]
    | false =>
      rw [if_neg (by simp), ih (i + 1) k (by omega) (by omega)]; simp [List.find?, hq, found]
theorem find_loop0 {n : Nat} {ρ : Type} {L : Nat → Int → Option ρ} {Q : Nat → Bool} {r : Nat → ρ} {e : ρ} {c : Nat}
    (hs : ∀ k i, i < n → c ≤ k → L (k + 1) (i : Int) = if Q i = true then some (r i) else L k ((i + 1 : Nat) : Int))
    (he : ∀ k, L (k + 1) (n : Int) = some e) (k : Nat) (hk : n + c < k) : L k 0 = some (found Q r e (List.range n)) := by
  have := find_loop hs he n 0 k (by omega) hk; rw [List.range_eq_range']; exact this
theorem found_none {ρ : Type} {Q : Nat → Bool} {r : Nat → ρ} {e : ρ} {n : Nat} (h : ∀ i, i < n → Q i = false) : found Q r e (List.range n) = e := by
  unfold found
  have : (List.range n).find? Q = none := by
    rw [List.find?_eq_none]; intro i hi; rw [h i (List.mem_range.1 hi)]; simp
  rw [this]
theorem found_some {ρ : Type} {Q : Nat → Bool} {r : Nat → ρ} {e : ρ} {n j : Nat} (hj : j < n) (hq : Q j = true) (h : ∀ i, i < j → Q i = false) : found Q r e (List.range n) = r j := by
  unfold found
  have : (List.range n).find? Q = some j := by
    rw [List.find?_range_eq_some]; exact ⟨hq, List.mem_range.2 hj, fun i hi => by rw [h i hi]; rfl⟩
  rw [this]
theorem first_of {Q : Nat → Bool} : ∀ n, (∃ j, j < n ∧ Q j = true ∧ ∀ i, i < j → Q i = false) ∨ ∀ i, i < n → Q i = false := by
  intro n; induction n with
  | zero => right; intro i hi; omega
  | succ n ih =>
    rcases ih with ⟨j, h1, h2, h3⟩ | h
    · left; exact ⟨j, by omega, h2, h3⟩
    · cases hq : Q n with
      | true => left; exact ⟨n, by omega, hq, h⟩
      | false => right; intro i hi; rcases Nat.lt_or_ge i n with c | c
                 · exact h i c
                 · obtain rfl : i = n := by omega
                   exact hq
theorem track_loop {n : Nat} {σ ρ : Type} {L : Nat → σ → Int → Option ρ} {F : Nat → σ} {r : ρ} {c : Nat}
    (hs : ∀ k i, i < n → c ≤ k → L (k + 1) (F i) (i : Int) = L k (F (i + 1)) ((i + 1 : Nat) : Int))
    (he : ∀ k, c ≤ k → L (k + 1) (F n) (n : Int) = some r) :
    ∀ d i k, i + d = n → d + c < k → L k (F i) (i : Int) = some r := by
  intro d; induction d with
  | zero =>
    intro i k h hk; obtain ⟨k, rfl⟩ : ∃ m, k = m + 1 := ⟨k - 1, by omega⟩; obtain rfl : i = n := by omega
    exact he k (by omega)
  | succ d ih =>
    intro i k h hk; obtain ⟨k, rfl⟩ : ∃ m, k = m + 1 := ⟨k - 1, by omega⟩; rw [hs k i (by omega) (by omega)]; exact ih (i + 1) k (by omega) (by omega)
theorem track_loop0 {n : Nat} {σ ρ : Type} {L : Nat → σ → Int → Option ρ} {F : Nat → σ} {r : ρ} {c : Nat}
    (hs : ∀ k i, i < n → c ≤ k → L (k + 1) (F i) (i : Int) = L k (F (i + 1)) ((i + 1 : Nat) : Int))
    (he : ∀ k, c ≤ k → L (k + 1) (F n) (n : Int) = some r) (k : Nat) (hk : n + c < k) : L k (F 0) 0 = some r :=
  track_loop hs he n 0 k (by omega) hk
theorem all_iff {n : Nat} {Q : Nat → Bool} : (List.range n).all Q = true ↔ ∀ i, i < n → Q i = true := by
  rw [List.all_eq_true]; exact ⟨fun h i hi => h i (List.mem_range.2 hi), fun h i hi => h i (List.mem_range.1 hi)⟩
end Go.Proofs.Ytllpmpfchidhoaa.G
namespace Go.Proofs.Ytllpmpfchidhoaa.C
open Go.RowKit Go.Proofs.Ytllpmpfchidhoaa.P Go.Proofs.Ytllpmpfchidhoaa.G
theorem l1In (a b c : Int) : spec_l1In.f a b c = some (decide (b ≤ a ∧ a ≤ c)) := by
  unfold spec_l1In.f; by_cases h : a ≥ b <;> simp [h] <;> omega
theorem in_ (a b c : Int) : impl_in.f a b c = some (decide (b ≤ a ∧ a ≤ c)) := by
  unfold impl_in.f; by_cases h : b ≤ a <;> simp [h]
theorem l2Time (a : Int) : spec_l2Time.f a = some (decide (0 ≤ a ∧ a ≤ 1000000000000)) := by
  unfold spec_l2Time.f; rw [l1In]; rfl
theorem isTime (a : Int) : impl_isTime.f a = some (decide (0 ≤ a ∧ a ≤ 1000000000000)) := by
  unfold impl_isTime.f; rw [in_]; rfl
theorem l4Node (a : Int) : spec_l4Node.f a = some (decide (0 ≤ a ∧ a ≤ 7)) := by
  unfold spec_l4Node.f; rw [l1In]; rfl
theorem isNode (a : Int) : impl_isNode.f a = some (decide (0 ≤ a ∧ a ≤ 7)) := by
  unfold impl_isNode.f; rw [in_]; rfl
def timeOk (x : Int) : Bool := decide (0 ≤ x ∧ x ≤ 1000000000000)
theorem timeOk_iff (x : Int) : timeOk x = true ↔ 0 ≤ x ∧ x ≤ 1000000000000 := by unfold timeOk; simp
end Go.Proofs.Ytllpmpfchidhoaa.C
namespace Go.Proofs.Ytllpmpfchidhoaa.C
open Go.RowKit Go.Proofs.Ytllpmpfchidhoaa.P Go.Proofs.Ytllpmpfchidhoaa.G Go.Proofs.YtllpmpfchidhoaaW.PrintWords
theorem and255 (n : Int) : Go.bits .and .i64 n 255 = n % 256 := by
  have h : (BitVec.ofInt 64 255).toNat = 2 ^ 8 - 1 := by decide
  have key : (BitVec.ofInt 64 n &&& BitVec.ofInt 64 255).toNat = (n % ((2 ^ 64 : Nat) : Int)).toNat % 2 ^ 8 := by
    rw [BitVec.toNat_and, BitVec.toNat_ofInt, h, Nat.and_two_pow_sub_one_eq_mod]
  show IntKind.i64.wrap ((BitVec.ofInt 64 n &&& BitVec.ofInt 64 255).toNat : Nat) = n % 256
  rw [key, IntKind.wrap_i64]; omega
def At (s : List Int) (p : Int) : Prop := 0 ≤ p ∧ p ≤ s.length ∧ s.length ≤ 1048576
theorem dByte (s : List Int) (p z : Int) (h : At s p) : ∃ b p' z', spec_l1Byte.f s p z = some (b, p', z') ∧ At s p' ∧ 0 ≤ b ∧ b ≤ 255 := by
  unfold At at *
  unfold spec_l1Byte.f
  by_cases hp : p < (s.length : Int)
  · rw [if_pos hp, if_pos h.1, and255]; refine ⟨_, _, _, rfl, ⟨?_, ?_, h.2.2⟩, Int.emod_nonneg _ (by omega), by have := Int.emod_lt_of_pos (wrap64 (Go.bits .and .i64 (Go.bits .xor .i64 (wrap64 (wrap64 (z * 6364136223846793005) + 1442695040888963407) / 8589934592) (wrap64 (wrap64 (z * 6364136223846793005) + 1442695040888963407) / 35184372088832)) 255 + wrap64 (rd s p))) (show (0 : Int) < 256 by omega); omega⟩
    · rw [wrap_id (by omega) (by omega)]; omega
    · rw [wrap_id (by omega) (by omega)]; omega
  · rw [if_neg hp, and255]; refine ⟨_, _, _, rfl, h, Int.emod_nonneg _ (by omega), by have := Int.emod_lt_of_pos (Go.bits .xor .i64 (wrap64 (wrap64 (z * 6364136223846793005) + 1442695040888963407) / 8589934592) (wrap64 (wrap64 (z * 6364136223846793005) + 1442695040888963407) / 35184372088832)) (show (0 : Int) < 256 by omega); omega⟩
theorem dBelow (s : List Int) (p z n : Int) (h : At s p) : ∃ v p' z', spec_l1Below.f s p z n = some (v, p', z') ∧ At s p' ∧ 0 ≤ v ∧ (0 < n → v < n) := by
  unfold spec_l1Below.f
  by_cases h0 : n ≤ 0
  · rw [if_pos h0]; exact ⟨0, p, z, rfl, h, by omega, by omega⟩
  rw [if_neg h0]; by_cases h1 : n ≤ 256
  · rw [if_pos h1]; obtain ⟨b, p1, z1, e1, a1, b1, b2⟩ := dByte s p z h; rw [e1]; simp only [Option.bind_some]; rw [if_neg (by omega)]; exact ⟨_, _, _, rfl, a1, Int.tmod_nonneg _ b1, fun _ => Int.tmod_lt_of_pos _ (by omega)⟩
  · rw [if_neg h1]; obtain ⟨b, p1, z1, e1, a1, b1, b2⟩ := dByte s p z h; rw [e1]; simp only [Option.bind_some]; obtain ⟨c, p2, z2, e2, a2, c1, c2⟩ := dByte s p1 z1 a1; rw [e2]; simp only [Option.bind_some]; obtain ⟨d, p3, z3, e3, a3, d1, d2⟩ := dByte s p2 z2 a2; rw [e3]; simp only [Option.bind_some]; obtain ⟨e, p4, z4, e4, a4, f1, f2⟩ := dByte s p3 z3 a3; rw [e4]; simp only [Option.bind_some]; rw [if_neg (by omega), wrap_id (x := b * 16777216) (by omega) (by omega), wrap_id (x := c * 65536) (by omega) (by omega), wrap_id (x := d * 256) (by omega) (by omega), wrap_id (x := b * 16777216 + c * 65536) (by omega) (by omega), wrap_id (x := b * 16777216 + c * 65536 + d * 256) (by omega) (by omega), wrap_id (x := b * 16777216 + c * 65536 + d * 256 + e) (by omega) (by omega)]; exact ⟨_, _, _, rfl, a4, Int.tmod_nonneg _ (by omega), fun _ => Int.tmod_lt_of_pos _ (by omega)⟩
theorem dPick (s : List Int) (p z : Int) (xs : List Int) (h : At s p) (hx : xs ≠ []) (hl : xs.length ≤ 256) : ∃ v p' z', spec_l1PickInt.f s p z xs = some (v, p', z') ∧ At s p' ∧ v ∈ xs := by
  unfold spec_l1PickInt.f
  have hn : 0 < xs.length := List.length_pos_iff.2 hx; obtain ⟨v, p1, z1, e1, a1, b1, b2⟩ := dBelow s p z (xs.length : Int) h; rw [e1]; simp only [Option.bind_some]; have hv := b2 (by omega); rw [if_pos b1, if_pos hv]; obtain ⟨i, rfl⟩ := Int.eq_ofNat_of_zero_le b1; have hi : i < xs.length := by omega
  refine ⟨_, _, _, rfl, a1, ?_⟩
  have : rd xs (i : Int) = xs[i] := by unfold rd; simp [List.getD, hi]
  rw [this]; exact List.getElem_mem hi
theorem dOnce (s : List Int) (p z n : Int) (h : At s p) : ∃ v p' z', spec_l1Once.f s p z n = some (v, p', z') ∧ At s p' := by
  unfold spec_l1Once.f
  obtain ⟨v, p1, z1, e1, a1, b1, b2⟩ := dBelow s p z n h; rw [e1]; exact ⟨_, _, _, rfl, a1⟩
theorem dNew (s : List Int) (hs : s.length ≤ 1048576) (k : Nat) (hk : 4100 < k) : ∃ z, spec_l1New.f k s = some (s, 0, z) ∧ At s 0 := by
  unfold spec_l1New.f
  have : ∀ (d i k : Nat) (z : Int), i + d = 4000 → d < k → ∃ z', spec_l1New.l0 k s z (i : Int) = some (s, 0, z') := by
    intro d; induction d with
    | zero =>
      intro i k z hi hk; obtain ⟨k, rfl⟩ : ∃ j, k = j + 1 := ⟨k - 1, by omega⟩; simp only [spec_l1New.l0]
      obtain rfl : i = 4000 := by omega
      split
      · exact ⟨_, by rw [if_neg (by omega)]⟩
      · exact ⟨_, rfl⟩
    | succ d ih =>
      intro i k z hi hk; obtain ⟨k, rfl⟩ : ∃ j, k = j + 1 := ⟨k - 1, by omega⟩; simp only [spec_l1New.l0]
      split
      · rw [if_pos (by omega), if_pos (by omega), wrap_succ (n := 4000) (by omega) (by omega)]; exact ih (i + 1) k _ (by omega) (by omega)
      · exact ⟨_, rfl⟩
  obtain ⟨z, h⟩ := this 4000 0 k (wrap64 (72072 + (s.length : Int))) (by omega) (by omega); exact ⟨z, h, by unfold At; omega⟩
end Go.Proofs.Ytllpmpfchidhoaa.C
namespace Go.Proofs.Ytllpmpfchidhoaa.C
open Go.RowKit Go.Proofs.Ytllpmpfchidhoaa.P Go.Proofs.Ytllpmpfchidhoaa.G
abbrev Sl := S42
theorem rdSl (l : List Sl) (i : Nat) (h : i < l.length) : rd_T42 l (i : Int) = l[i] := by
  unfold rd_T42; simp [List.getD, h]
def slotOk (x : Sl) : Bool := decide (0 ≤ x.f0 ∧ x.f0 ≤ 7) && decide (1 ≤ x.f1 ∧ x.f1 ≤ 1000000)
def slotsOk (l : List Sl) : Bool := (List.range l.length).all fun i => match l[i]? with | some x => slotOk x | none => true
def planOk (st gap : Int) (l : List Sl) : Bool := decide (0 ≤ st ∧ st ≤ 1000000000000) && decide (0 ≤ gap ∧ gap ≤ 100000) && decide ((1 : Int) ≤ l.length ∧ (l.length : Int) ≤ 12) && slotsOk l
theorem slotsOk_get {l : List Sl} (h : slotsOk l = true) (i : Nat) (hi : i < l.length) : 0 ≤ l[i].f0 ∧ l[i].f0 ≤ 7 ∧ 1 ≤ l[i].f1 ∧ l[i].f1 ≤ 1000000 := by
  unfold slotsOk at h; rw [all_iff] at h
  have := h i hi; rw [List.getElem?_eq_getElem hi] at this; simp [slotOk] at this; omega
theorem planOk_iff (st gap : Int) (l : List Sl) : planOk st gap l = true ↔ (0 ≤ st ∧ st ≤ 1000000000000) ∧ (0 ≤ gap ∧ gap ≤ 100000) ∧ (1 ≤ l.length ∧ l.length ≤ 12) ∧ slotsOk l = true := by
  unfold planOk; simp only [Bool.and_eq_true, decide_eq_true_eq]; constructor
  · rintro ⟨⟨⟨h1, h2⟩, h3⟩, h4⟩; exact ⟨h1, h2, by omega, h4⟩
  · rintro ⟨h1, h2, h3, h4⟩; exact ⟨⟨⟨h1, h2⟩, by omega⟩, h4⟩
theorem iIndexSlot (l : List Sl) (hl : l.length ≤ 1048576) (k : Nat) (hk : l.length < k) : ∃ r, slices_IndexFunc_Slot.f k l = some r ∧ decide (r ≥ 0) = !slotsOk l := by
  have h1 : ∀ x : Sl, impl_PlanOk_1.f x.f0 x.f1 = some (!slotOk x) := by
    intro x; unfold impl_PlanOk_1.f slotOk; simp only [isNode, in_, Option.bind_some]
    cases decide (0 ≤ x.f0 ∧ x.f0 ≤ 7) <;> simp
  unfold slices_IndexFunc_Slot.f
  have := find_loop0 (n := l.length) (L := fun k i => slices_IndexFunc_Slot.l0 k l (l.length : Int) i) (Q := fun i => match l[i]? with | some x => !slotOk x | none => false) (r := fun i => (i : Int)) (e := -1) (c := 0) (fun k i hi _ => ?_) (fun k => ?_) k (by omega)
  · refine ⟨_, this, ?_⟩
    rcases first_of (Q := fun i => match l[i]? with | some x => !slotOk x | none => false) l.length with ⟨j, h2, h3, h4⟩ | h2
    · rw [found_some h2 h3 h4]; have : slotsOk l = false := by
        cases hs : slotsOk l with
        | false => rfl
        | true =>
          unfold slotsOk at hs; rw [all_iff] at hs
          have := hs j h2; rw [List.getElem?_eq_getElem h2] at this h3; simp at this h3; rw [this] at h3; cases h3
      rw [this]; simp
    · rw [found_none h2]; have : slotsOk l = true := by
        unfold slotsOk; rw [all_iff]; intro i hi
        have := h2 i hi; rw [List.getElem?_eq_getElem hi] at this ⊢; simpa using this
      rw [this]; simp
  · simp only [slices_IndexFunc_Slot.l0]
    rw [if_pos (by omega), if_pos (by omega), if_pos (by omega), wrap_succ hi (by omega), rdSl l i hi, h1, List.getElem?_eq_getElem hi]; rfl
  · simp only [slices_IndexFunc_Slot.l0]
    rw [if_neg (by omega)]
theorem iPlanOk (st gap : Int) (l : List Sl) (hl : l.length ≤ 1048576) (k : Nat) (hk : l.length < k) : impl_PlanOk.f k st gap l = some (planOk st gap l) := by
  obtain ⟨r, h1, h2⟩ := iIndexSlot l hl k hk; unfold impl_PlanOk.f planOk slices_ContainsFunc_Slot.f; simp only [isTime, in_, h1, h2, Option.bind_some]
  cases decide (0 ≤ st ∧ st ≤ 1000000000000) <;> cases decide (0 ≤ gap ∧ gap ≤ 100000) <;> cases decide ((1 : Int) ≤ l.length ∧ (l.length : Int) ≤ 12) <;> simp
theorem sPlanOk (st gap : Int) (l : List Sl) (hl : l.length ≤ 1048576) (k : Nat) (hk : l.length + 1 < k) : spec_PlanOk.f k st gap l = some (planOk st gap l) := by
  obtain ⟨k, rfl⟩ : ∃ j, k = j + 1 := ⟨k - 1, by omega⟩; have hL : spec_PlanOk.l0 k 0 st gap l = some (slotsOk l) := by
    unfold slotsOk
    have := all_loop0 (n := l.length) (L := fun k i => spec_PlanOk.l0 k i st gap l) (Q := fun i => match l[i]? with | some x => slotOk x | none => true) (e := true) (fun k i hi => ?_) (fun k => ?_) k (by omega)
    · simpa using this
    · simp only [spec_PlanOk.l0, l4Node, l1In, Option.bind_some]
      rw [if_pos (by omega), if_pos (by omega), wrap_succ hi (by omega), rdSl l i hi, List.getElem?_eq_getElem hi]; simp only [slotOk]
      by_cases h1 : (0 ≤ l[i].f0 ∧ l[i].f0 ≤ 7) <;> by_cases h2 : (1 ≤ l[i].f1 ∧ l[i].f1 ≤ 1000000) <;> simp [h1, h2]
    · simp only [spec_PlanOk.l0]
      rw [if_neg (by omega)]
  unfold spec_PlanOk.f planOk; simp only [l2Time, l1In, Option.bind_some, spec_PlanOk.j0, hL]
  cases decide (0 ≤ st ∧ st ≤ 1000000000000) <;> cases decide (0 ≤ gap ∧ gap ≤ 100000) <;> cases decide ((1 : Int) ≤ l.length ∧ (l.length : Int) ≤ 12) <;> simp
end Go.Proofs.Ytllpmpfchidhoaa.C
namespace Go.Proofs.Ytllpmpfchidhoaa.P
open Go.RowKit Go.Proofs.YtllpmpfchidhoaaW.PrintWords Go.Proofs.YtllpmpfchidhoaaW.PrintLast Go.Proofs.YtllpmpfchidhoaaW.PrintMore
attribute [local go_sem] max2_int min2_int max_two min_two max_three min_three max_four min_four
set_option linter.unusedVariables false
set_option linter.unusedSimpArgs false
end Go.Proofs.Ytllpmpfchidhoaa.P

namespace Go.Proofs.Ytllpmpfchidhoaa.P
open Go.RowKit Go.Proofs.YtllpmpfchidhoaaW.PrintWords Go.Proofs.YtllpmpfchidhoaaW.PrintLast Go.Proofs.YtllpmpfchidhoaaW.PrintMore
attribute [local go_sem] max2_int min2_int max_two min_two max_three min_three max_four min_four
set_option linter.unusedVariables false
set_option linter.unusedSimpArgs false
end Go.Proofs.Ytllpmpfchidhoaa.P

namespace Go.Proofs.Ytllpmpfchidhoaa.P
open Go.RowKit Go.Proofs.YtllpmpfchidhoaaW.PrintWords Go.Proofs.YtllpmpfchidhoaaW.PrintLast Go.Proofs.YtllpmpfchidhoaaW.PrintMore
attribute [local go_sem] max2_int min2_int max_two min_two max_three min_three max_four min_four
set_option linter.unusedVariables false
set_option linter.unusedSimpArgs false
end Go.Proofs.Ytllpmpfchidhoaa.P

namespace Go.Proofs.Ytllpmpfchidhoaa.C
open Go.RowKit Go.Proofs.Ytllpmpfchidhoaa.P Go.Proofs.Ytllpmpfchidhoaa.G Go.Proofs.YtllpmpfchidhoaaW.PrintWords
theorem dCount (s : List Int) (p z : Int) (h : At s p) : ∃ v p' z', spec_l2DrawCount.f s p z = some (v, p', z') ∧ At s p' ∧ -1 ≤ v ∧ v ≤ 9223372036854775807 := by
  unfold spec_l2DrawCount.f
  obtain ⟨a, p1, z1, e1, a1, _, _⟩ := dBelow s p z 14 h; rw [e1]; simp only [Option.bind_some]; split
  · obtain ⟨v, p2, z2, e2, a2, hv⟩ := dPick s p1 z1 [(-1), 0, 1000000000000, 1000000000001, 500000000000, 666666666666, 9223372036854775807] a1 (by simp) (by simp); rw [e2]; refine ⟨_, _, _, rfl, a2, ?_⟩
    simp at hv; omega
  · split
    · obtain ⟨v, p2, z2, e2, a2, h1, h2⟩ := dBelow s p1 z1 1000000000 a1; rw [e2]; have := h2 (by omega); refine ⟨_, _, _, rfl, a2, ?_⟩
      rw [wrap_id (by omega) (by omega)]; omega
    · split
      · obtain ⟨v, p2, z2, e2, a2, h1, h2⟩ := dBelow s p1 z1 6 a1; rw [e2]; have := h2 (by omega); exact ⟨_, _, _, rfl, a2, by omega⟩
      · obtain ⟨v, p2, z2, e2, a2, h1, h2⟩ := dBelow s p1 z1 5000 a1; rw [e2]; have := h2 (by omega); exact ⟨_, _, _, rfl, a2, by omega⟩
theorem dPlanL (s : List Int) (st gap : Int) (n : Nat) (hn : n ≤ 12) : ∀ d i k p z (l : List Sl), i + d = n → d < k → At s p → l.length = i → (∀ y ∈ l, 0 ≤ y.f0 ∧ y.f0 ≤ 3 ∧ 1 ≤ y.f1 ∧ y.f1 ≤ 60) →
    ∃ l' p' z', spec_l13DrawPlan.l0 k (n : Int) (i : Int) s p z st gap l = some (st, gap, l', p', z') ∧ At s p' ∧ l'.length = n ∧ ∀ y ∈ l', 0 ≤ y.f0 ∧ y.f0 ≤ 3 ∧ 1 ≤ y.f1 ∧ y.f1 ≤ 60 := by
  intro d; induction d with
  | zero =>
    intro i k p z l hi hk h hl hy; obtain ⟨k, rfl⟩ : ∃ j, k = j + 1 := ⟨k - 1, by omega⟩; simp only [spec_l13DrawPlan.l0]
    rw [if_neg (by omega)]; exact ⟨_, _, _, rfl, h, by omega, hy⟩
  | succ d ih =>
    intro i k p z l hi hk h hl hy; obtain ⟨k, rfl⟩ : ∃ j, k = j + 1 := ⟨k - 1, by omega⟩; simp only [spec_l13DrawPlan.l0]
    obtain ⟨a, p1, z1, e1, a1, b1, b2⟩ := dBelow s p z 4 h; rw [if_pos (by omega), e1]; simp only [Option.bind_some]; obtain ⟨b, p2, z2, e2, a2, c1, c2⟩ := dBelow s p1 z1 60 a1; rw [e2]; simp only [Option.bind_some]; have := b2 (by omega); have := c2 (by omega); rw [if_pos (by omega), wrap_succ (n := n) (by omega) (by omega), wrap_id (x := 1 + b) (by omega) (by omega)]; refine ih (i + 1) k _ _ _ (by omega) (by omega) a2 (by simp; omega) (fun y hy2 => ?_)
    rw [List.mem_append] at hy2; rcases hy2 with hy2 | hy2
    · exact hy y hy2
    · simp at hy2; subst hy2; simp only; omega
theorem dPlan (s : List Int) (p z : Int) (h : At s p) (k : Nat) (hk : 20 ≤ k) : ∃ st gap l p' z', spec_l13DrawPlan.f k s p z = some (st, gap, l, p', z') ∧ At s p' ∧ (1 ≤ l.length ∧ l.length ≤ 12) ∧ (0 ≤ st ∧ st ≤ 39) ∧ (0 ≤ gap ∧ gap ≤ 5) ∧ ∀ y ∈ l, 0 ≤ y.f0 ∧ y.f0 ≤ 3 ∧ 1 ≤ y.f1 ∧ y.f1 ≤ 60 := by
  obtain ⟨k, rfl⟩ : ∃ j, k = j + 1 := ⟨k - 1, by omega⟩; unfold spec_l13DrawPlan.f
  obtain ⟨st, p1, z1, e1, a1, b1, b2⟩ := dBelow s p z 40 h; rw [e1]; simp only [Option.bind_some]; obtain ⟨gap, p2, z2, e2, a2, c1, c2⟩ := dBelow s p1 z1 6 a1; rw [e2]; simp only [Option.bind_some]; obtain ⟨n, p3, z3, e3, a3, d1, d2⟩ := dBelow s p2 z2 5 a2; rw [e3]; simp only [Option.bind_some]; obtain ⟨o, p4, z4, e4, a4⟩ := dOnce s p3 z3 20 a3; rw [e4]; simp only [Option.bind_some, spec_l13DrawPlan.j0]; have := b2 (by omega); have := c2 (by omega); have := d2 (by omega); have hP : ∀ m : Nat, 1 ≤ m → m ≤ 12 → ∃ l' p' z', spec_l13DrawPlan.l0 k (m : Int) 0 s p4 z4 st gap [] = some (st, gap, l', p', z') ∧ At s p' ∧ l'.length = m ∧ ∀ y ∈ l', 0 ≤ y.f0 ∧ y.f0 ≤ 3 ∧ 1 ≤ y.f1 ∧ y.f1 ≤ 60 := fun m h1 h2 => dPlanL s st gap m h2 m 0 k p4 z4 [] (by omega) (by omega) a4 rfl (fun y hy => by cases hy)
  split
  · obtain ⟨l, p5, z5, e5, a5, hl, hy⟩ := hP 12 (by omega) (by omega); exact ⟨_, _, _, _, _, e5, a5, by omega, by omega, by omega, hy⟩
  · rw [wrap_id (x := 1 + n) (by omega) (by omega)]; obtain ⟨m, hm⟩ := Int.eq_ofNat_of_zero_le (show 0 ≤ 1 + n by omega); rw [hm]; obtain ⟨l, p5, z5, e5, a5, hl, hy⟩ := hP m (by omega) (by omega); exact ⟨_, _, _, _, _, e5, a5, by omega, by omega, by omega, hy⟩
theorem dAnyL (s : List Int) (st gap p z : Int) : ∀ d k (l : List Sl), l.length + d = 13 → d < k → ∃ l', spec_l13DrawAny.l0 k s p z st gap l = some (st, gap, l', p, z) ∧ l'.length = 13 := by
  intro d; induction d with
  | zero =>
    intro k l hl hk; obtain ⟨k, rfl⟩ : ∃ j, k = j + 1 := ⟨k - 1, by omega⟩; simp only [spec_l13DrawAny.l0]
    rw [if_neg (by omega)]; exact ⟨_, rfl, by omega⟩
  | succ d ih =>
    intro k l hl hk; obtain ⟨k, rfl⟩ : ∃ j, k = j + 1 := ⟨k - 1, by omega⟩; simp only [spec_l13DrawAny.l0]
    rw [if_pos (by omega), if_pos (by omega)]; exact ih k _ (by simp; omega) (by omega)
theorem dAny (s : List Int) (p z : Int) (h : At s p) (k : Nat) (hk : 30 ≤ k) : ∃ st gap l p' z', spec_l13DrawAny.f k s p z = some (st, gap, l, p', z') ∧ At s p' ∧ l.length ≤ 13 := by
  unfold spec_l13DrawAny.f
  obtain ⟨st, gap, l, p1, z1, e1, a1, hl, _⟩ := dPlan s p z h k (by omega); rw [e1]; simp only [Option.bind_some]; obtain ⟨v, p2, z2, e2, a2, _, _⟩ := dBelow s p1 z1 25 a1; rw [e2]; simp only [Option.bind_some]; split
  · obtain ⟨w, p3, z3, e3, a3, _⟩ := dCount s p2 z2 a2; rw [e3]; exact ⟨_, _, _, _, _, rfl, a3, by omega⟩
  split
  · obtain ⟨w, p3, z3, e3, a3, _⟩ := dPick s p2 z2 [(-1), 100000, 100001] a2 (by simp) (by simp); rw [e3]; exact ⟨_, _, _, _, _, rfl, a3, by omega⟩
  split
  · obtain ⟨w, p3, z3, e3, a3, _⟩ := dPick s p2 z2 [(-1), 8, 7] a2 (by simp) (by simp); rw [e3]; simp only [Option.bind_some]; rw [if_pos (by omega)]; exact ⟨_, _, _, _, _, rfl, a3, by simp; omega⟩
  split
  · obtain ⟨w, p3, z3, e3, a3, _⟩ := dPick s p2 z2 [0, 1000000, 1000001] a2 (by simp) (by simp); rw [e3]; simp only [Option.bind_some]; rw [if_pos (by omega)]; exact ⟨_, _, _, _, _, rfl, a3, by simp; omega⟩
  split
  · exact ⟨_, _, _, _, _, rfl, a2, by simp⟩
  split
  · obtain ⟨l', e, hl'⟩ := dAnyL s st gap p2 z2 (13 - l.length) k l (by omega) (by omega); exact ⟨_, _, _, _, _, e, a2, by omega⟩
  · exact ⟨_, _, _, _, _, rfl, a2, by omega⟩
end Go.Proofs.Ytllpmpfchidhoaa.C
namespace Go.Proofs.Ytllpmpfchidhoaa.C
open Go.RowKit Go.Proofs.Ytllpmpfchidhoaa.P Go.Proofs.Ytllpmpfchidhoaa.G
def ivalOk (a b : Int) : Bool := decide (-1000000000000 ≤ a) && decide (a ≤ b) && decide (b ≤ 1000000000000)
theorem ivalOk_iff (a b : Int) : ivalOk a b = true ↔ -1000000000000 ≤ a ∧ a ≤ b ∧ b ≤ 1000000000000 := by unfold ivalOk; simp; omega
theorem sIvalOk (a b : Int) : spec_IvalOk.f a b = some (ivalOk a b) := by
  have e : ivalOk a b = decide (-1000000000000 ≤ a ∧ a ≤ b ∧ b ≤ 1000000000000) := by
    rw [Bool.eq_iff_iff, ivalOk_iff, decide_eq_true_iff]
  rw [e]; unfold spec_IvalOk.f; simp only [l1In, Option.bind_some]
  by_cases h1 : a ≤ b
  · rw [if_pos h1]; by_cases h2 : (-1000000000000 ≤ a ∧ a ≤ 1000000000000)
    · rw [decide_eq_true h2, if_pos rfl]; congr 1; rw [decide_eq_decide]; omega
    · rw [decide_eq_false h2, if_neg (by decide)]; congr 1; symm; apply decide_eq_false; omega
  · rw [if_neg h1]; congr 1; symm; apply decide_eq_false; omega
theorem iIvalOk (a b : Int) : impl_IvalOk.f a b = some (ivalOk a b) := by
  unfold impl_IvalOk.f ivalOk
  by_cases h1 : a ≤ b <;> by_cases h2 : -1000000000000 ≤ a <;> by_cases h3 : b ≤ 1000000000000 <;> simp [h1, h2, h3]
def ivalT (a b : Int) : Int × Int × Bool := if ivalOk a b = true then (a, b, true) else (0, 0, false)
theorem sTold (a b : Int) : spec_l1Told.f a b = some (ivalT a b) := by
  unfold spec_l1Told.f ivalT; rw [sIvalOk]; simp only [Option.bind_some]; split <;> rfl
theorem iIval (a b : Int) : impl_ival.f a b = some (ivalT a b) := by
  unfold impl_ival.f ivalT; rw [iIvalOk]; simp only [Option.bind_some]; split <;> rfl
end Go.Proofs.Ytllpmpfchidhoaa.C
namespace Go.Proofs.Ytllpmpfchidhoaa.P
open Go.RowKit Go.Proofs.YtllpmpfchidhoaaW.PrintWords Go.Proofs.YtllpmpfchidhoaaW.PrintLast Go.Proofs.YtllpmpfchidhoaaW.PrintMore
attribute [local go_sem] max2_int min2_int max_two min_two max_three min_three max_four min_four
set_option linter.unusedVariables false
set_option linter.unusedSimpArgs false
end Go.Proofs.Ytllpmpfchidhoaa.P

namespace Go.Proofs.Ytllpmpfchidhoaa.P
open Go.RowKit Go.Proofs.YtllpmpfchidhoaaW.PrintWords Go.Proofs.YtllpmpfchidhoaaW.PrintLast Go.Proofs.YtllpmpfchidhoaaW.PrintMore
attribute [local go_sem] max2_int min2_int max_two min_two max_three min_three max_four min_four
set_option linter.unusedVariables false
set_option linter.unusedSimpArgs false
end Go.Proofs.Ytllpmpfchidhoaa.P

