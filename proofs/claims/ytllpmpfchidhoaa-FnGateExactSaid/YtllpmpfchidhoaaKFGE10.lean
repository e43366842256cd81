/- Texts of the seat's proofs, part 10: functions of the program told as plain functions, with their contracts, and what is shown of them. No condition. -/
import Derived.Test.YtllpmpfchidhoaaUKFGE
import Derived.Test.YtllpmpfchidhoaaKFGE5
import Derived.Test.YtllpmpfchidhoaaKFGE2
import Derived.Test.YtllpmpfchidhoaaKFGE3
import Derived.Laws.Bits128
import Derived.Test.YtllpmpfchidhoaaKFGE1
import Derived.Test.YtllpmpfchidhoaaKFGE6
import Derived.Test.YtllpmpfchidhoaaKFGE4
import Derived.Test.YtllpmpfchidhoaaKFGE7
import Derived.Test.YtllpmpfchidhoaaKFGE8
set_option linter.unusedVariables false
set_option linter.unusedSimpArgs false
namespace Go.Proofs.Ytllpmpfchidhoaa.G
open Go.RowKit Go.Proofs.YtllpmpfchidhoaaW.PrintWords
theorem wrap_id {x : Int} (h1 : -9223372036854775808 ≤ x) (h2 : x ≤ 9223372036854775807) : wrap64 x = x := by unfold wrap64; omega
theorem wrap_succ {i n : Nat} (h : i < n) (hn : n ≤ 9223372036854775807) : wrap64 ((i : Int) + 1) = ((i + 1 : Nat) : Int) := by unfold wrap64; omega
theorem all_loop {n : Nat} {L : Nat → Int → Option Bool} {Q : Nat → Bool} {e : Bool}
    (hs : ∀ k i, i < n → L (k + 1) (i : Int) = if Q i = true then L k ((i + 1 : Nat) : Int) else some false)
    (he : ∀ k, L (k + 1) (n : Int) = some e) :
    ∀ d i k, i + d = n → d < k → L k (i : Int) = some ((List.range' i d).all Q && e) := by
  intro d; induction d with
  | zero =>
    intro i k h hk; obtain ⟨k, rfl⟩ : ∃ m, k = m + 1 := ⟨k - 1, by omega⟩; obtain rfl : i = n := by omega
    rw [he]; simp
  | succ d ih =>
    intro i k h hk; obtain ⟨k, rfl⟩ : ∃ m, k = m + 1 := ⟨k - 1, by omega⟩; rw [hs k i (by omega)]; rw [List.range'_succ]
    cases hq : Q i with
    | true => rw [if_pos rfl, ih (i + 1) k (by omega) (by omega)]; simp [hq]
    | false => simp [hq]
theorem all_loop0 {n : Nat} {L : Nat → Int → Option Bool} {Q : Nat → Bool} {e : Bool}
    (hs : ∀ k i, i < n → L (k + 1) (i : Int) = if Q i = true then L k ((i + 1 : Nat) : Int) else some false)
    (he : ∀ k, L (k + 1) (n : Int) = some e) (k : Nat) (hk : n < k) : L k 0 = some ((List.range n).all Q && e) := by
  have := all_loop hs he n 0 k (by omega) hk; rw [List.range_eq_range']; exact this
def found {ρ : Type} (Q : Nat → Bool) (r : Nat → ρ) (e : ρ) (is : List Nat) : ρ := match is.find? Q with
  | some j => r j
  | none => e
theorem find_loop {n : Nat} {ρ : Type} {L : Nat → Int → Option ρ} {Q : Nat → Bool} {r : Nat → ρ} {e : ρ} {c : Nat}
    (hs : ∀ k i, i < n → c ≤ k → L (k + 1) (i : Int) = if Q i = true then some (r i) else L k ((i + 1 : Nat) : Int))
    (he : ∀ k, L (k + 1) (n : Int) = some e) :
    ∀ d i k, i + d = n → d + c < k → L k (i : Int) = some (found Q r e (List.range' i d)) := by
  intro d; induction d with
  | zero =>
    intro i k h hk; obtain ⟨k, rfl⟩ : ∃ m, k = m + 1 := ⟨k - 1, by omega⟩; obtain rfl : i = n := by omega
    rw [he]; rfl
  | succ d ih =>
    intro i k h hk; obtain ⟨k, rfl⟩ : ∃ m, k = m + 1 := ⟨k - 1, by omega⟩; rw [hs k i (by omega) (by omega), List.range'_succ]; unfold found
    cases hq : Q i with
    | true => simp [List.find?, hq]
    | false =>
      rw [if_neg (by simp), ih (i + 1) k (by omega) (by omega)]; simp [List.find?, hq, found]
theorem find_loop0 {n : Nat} {ρ : Type} {L : Nat → Int → Option ρ} {Q : Nat → Bool} {r : Nat → ρ} {e : ρ} {c : Nat}
    (hs : ∀ k i, i < n → c ≤ k → L (k + 1) (i : Int) = if Q i = true then some (r i) else L k ((i + 1 : Nat) : Int))
    (he : ∀ k, L (k + 1) (n : Int) = some e) (k : Nat) (hk : n + c < k) : L k 0 = some (found Q r e (List.range n)) := by
  have := find_loop hs he n 0 k (by omega) hk; rw [List.range_eq_range']; exact this
theorem found_none {ρ : Type} {Q : Nat → Bool} {r : Nat → ρ} {e : ρ} {n : Nat} (h : ∀ i, i < n → Q i = false) : found Q r e (List.range n) = e := by
  unfold found
  have : (List.range n).find? Q = none := by
    rw [List.find?_eq_none]; intro i hi; rw [h i (List.mem_range.1 hi)]; simp
  rw [this]
theorem found_some {ρ : Type} {Q : Nat → Bool} {r : Nat → ρ} {e : ρ} {n j : Nat} (hj : j < n) (hq : Q j = true) (h : ∀ i, i < j → Q i = false) : found Q r e (List.range n) = r j := by
  unfold found
  have : (List.range n).find? Q = some j := by
    rw [List.find?_range_eq_some]; exact ⟨hq, List.mem_range.2 hj, fun i hi => by rw [h i hi]; rfl⟩
  rw [this]
theorem first_of {Q : Nat → Bool} : ∀ n, (∃ j, j < n ∧ Q j = true ∧ ∀ i, i < j → Q i = false) ∨ ∀ i, i < n → Q i = false := by
  intro n; induction n with
  | zero => right; intro i hi; omega
  | succ n ih =>
    rcases ih with ⟨j, h1, h2, h3⟩ | h
    · left; exact ⟨j, by omega, h2, h3⟩
    · cases hq : Q n with
      | true => left; exact ⟨n, by omega, hq, h⟩
      | false => right; intro i hi; rcases Nat.lt_or_ge i n with c | c
                 · exact h i c
                 · obtain rfl : i = n := by omega
                   exact hq
theorem track_loop {n : Nat} {σ ρ : Type} {L : Nat → σ → Int → Option ρ} {F : Nat → σ} {r : ρ} {c : Nat}
    (hs : ∀ k i, i < n → c ≤ k → L (k + 1) (F i) (i : Int) = L k (F (i + 1)) ((i + 1 : Nat) : Int))
    (he : ∀ k, c ≤ k → L (k + 1) (F n) (n : Int) = some r) :
    ∀ d i k, i + d = n → d + c < k → L k (F i) (i : Int) = some r := by
  intro d; induction d with
  | zero =>
    intro i k h hk; obtain ⟨k, rfl⟩ : ∃ m, k = m + 1 := ⟨k - 1, by omega⟩; obtain rfl : i = n := by omega
    exact he k (by omega)
  | succ d ih =>
    intro i k h hk; obtain ⟨k, rfl⟩ : ∃ m, k = m + 1 := ⟨k - 1, by omega⟩; rw [hs k i (by omega) (by omega)]; exact ih (i + 1) k (by omega) (by omega)
theorem track_loop0 {n : Nat} {σ ρ : Type} {L : Nat → σ → Int → Option ρ} {F : Nat → σ} {r : ρ} {c : Nat}
    (hs : ∀ k i, i < n → c ≤ k → L (k + 1) (F i) (i : Int) = L k (F (i + 1)) ((i + 1 : Nat) : Int))
    (he : ∀ k, c ≤ k → L (k + 1) (F n) (n : Int) = some r) (k : Nat) (hk : n + c < k) : L k (F 0) 0 = some r :=
  track_loop hs he n 0 k (by omega) hk
theorem all_iff {n : Nat} {Q : Nat → Bool} : (List.range n).all Q = true ↔ ∀ i, i < n → Q i = true := by
  rw [List.all_eq_true]; exact ⟨fun h i hi => h i (List.mem_range.2 hi), fun h i hi => h i (List.mem_range.1 hi)⟩
end Go.Proofs.Ytllpmpfchidhoaa.G
namespace Go.Proofs.Ytllpmpfchidhoaa.C
open Go.RowKit Go.Proofs.Ytllpmpfchidhoaa.P Go.Proofs.Ytllpmpfchidhoaa.G
theorem l1In (a b c : Int) : spec_l1In.f a b c = some (decide (b ≤ a ∧ a ≤ c)) := by
  unfold spec_l1In.f; by_cases h : a ≥ b <;> simp [h] <;> omega
theorem in_ (a b c : Int) : impl_in.f a b c = some (decide (b ≤ a ∧ a ≤ c)) := by
  unfold impl_in.f; by_cases h : b ≤ a <;> simp [h]
theorem l2Time (a : Int) : spec_l2Time.f a = some (decide (0 ≤ a ∧ a ≤ 1000000000000)) := by
  unfold spec_l2Time.f; rw [l1In]; rfl
theorem isTime (a : Int) : impl_isTime.f a = some (decide (0 ≤ a ∧ a ≤ 1000000000000)) := by
  unfold impl_isTime.f; rw [in_]; rfl
theorem l4Node (a : Int) : spec_l4Node.f a = some (decide (0 ≤ a ∧ a ≤ 7)) := by
  unfold spec_l4Node.f; rw [l1In]; rfl
theorem isNode (a : Int) : impl_isNode.f a = some (decide (0 ≤ a ∧ a ≤ 7)) := by
  unfold impl_isNode.f; rw [in_]; rfl
def timeOk (x : Int) : Bool := decide (0 ≤ x ∧ x ≤ 1000000000000)
theorem timeOk_iff (x : Int) : timeOk x = true ↔ 0 ≤ x ∧ x ≤ 1000000000000 := by unfold timeOk; simp
end Go.Proofs.Ytllpmpfchidhoaa.C
namespace Go.Proofs.Ytllpmpfchidhoaa.C
open Go.RowKit Go.Proofs.Ytllpmpfchidhoaa.P Go.Proofs.Ytllpmpfchidhoaa.G Go.Proofs.YtllpmpfchidhoaaW.PrintWords
theorem and255 (n : Int) : Go.bits .and .i64 n 255 = n % 256 := by
  have h : (BitVec.ofInt 64 255).toNat = 2 ^ 8 - 1 := by decide
  have key : (BitVec.ofInt 64 n &&& BitVec.ofInt 64 255).toNat = (n % ((2 ^ 64 : Nat) : Int)).toNat % 2 ^ 8 := by
    rw [BitVec.toNat_and, BitVec.toNat_ofInt, h, Nat.and_two_pow_sub_one_eq_mod]
  show IntKind.i64.wrap ((BitVec.ofInt 64 n &&& BitVec.ofInt 64 255).toNat : Nat) = n % 256
  rw [key, IntKind.wrap_i64]; omega
def At (s : List Int) (p : Int) : Prop := 0 ≤ p ∧ p ≤ s.length ∧ s.length ≤ 1048576
theorem dByte (s : List Int) (p z : Int) (h : At s p) : ∃ b p' z', spec_l1Byte.f s p z = some (b, p', z') ∧ At s p' ∧ 0 ≤ b ∧ b ≤ 255 := by
  unfold At at *
  unfold spec_l1Byte.f
  by_cases hp : p < (s.length : Int)
  · rw [if_pos hp, if_pos h.1, and255]; refine ⟨_, _, _, rfl, ⟨?_, ?_, h.2.2⟩, Int.emod_nonneg _ (by omega), by have := Int.emod_lt_of_pos (wrap64 (Go.bits .and .i64 (Go.bits .xor .i64 (wrap64 (wrap64 (z * 6364136223846793005) + 1442695040888963407) / 8589934592) (wrap64 (wrap64 (z * 6364136223846793005) + 1442695040888963407) / 35184372088832)) 255 + wrap64 (rd s p))) (show (0 : Int) < 256 by omega); omega⟩
    · rw [wrap_id (by omega) (by omega)]; omega
    · rw [wrap_id (by omega) (by omega)]; omega
  · rw [if_neg hp, and255]; refine ⟨_, _, _, rfl, h, Int.emod_nonneg _ (by omega), by have := Int.emod_lt_of_pos (Go.bits .xor .i64 (wrap64 (wrap64 (z * 6364136223846793005) + 1442695040888963407) / 8589934592) (wrap64 (wrap64 (z * 6364136223846793005) + 1442695040888963407) / 35184372088832)) (show (0 : Int) < 256 by omega); omega⟩
theorem dBelow (s : List Int) (p z n : Int) (h : At s p) : ∃ v p' z', spec_l1Below.f s p z n = some (v, p', z') ∧ At s p' ∧ 0 ≤ v ∧ (0 < n → v < n) := by
  unfold spec_l1Below.f
  by_cases h0 : n ≤ 0
  · rw [if_pos h0]; exact ⟨0, p, z, rfl, h, by omega, by omega⟩
  rw [if_neg h0]; by_cases h1 : n ≤ 256
  · rw [if_pos h1]; obtain ⟨b, p1, z1, e1, a1, b1, b2⟩ := dByte s p z h; rw [e1]; simp only [Option.bind_some]; rw [if_neg (by omega)]; exact ⟨_, _, _, rfl, a1, Int.tmod_nonneg _ b1, fun _ => Int.tmod_lt_of_pos _ (by omega)⟩
  · rw [if_neg h1]; obtain ⟨b, p1, z1, e1, a1, b1, b2⟩ := dByte s p z h; rw [e1]; simp only [Option.bind_some]; obtain ⟨c, p2, z2, e2, a2, c1, c2⟩ := dByte s p1 z1 a1; rw [e2]; simp only [Option.bind_some]; obtain ⟨d, p3, z3, e3, a3, d1, d2⟩ := dByte s p2 z2 a2; rw [e3]; simp only [Option.bind_some]; obtain ⟨e, p4, z4, e4, a4, f1, f2⟩ := dByte s p3 z3 a3; rw [e4]; simp only [Option.bind_some]; rw [if_neg (by omega), wrap_id (x := b * 16777216) (by omega) (by omega), wrap_id (x := c * 65536) (by omega) (by omega), wrap_id (x := d * 256) (by omega) (by omega), wrap_id (x := b * 16777216 + c * 65536) (by omega) (by omega), wrap_id (x := b * 16777216 + c * 65536 + d * 256) (by omega) (by omega), wrap_id (x := b * 16777216 + c * 65536 + d * 256 + e) (by omega) (by omega)]; exact ⟨_, _, _, rfl, a4, Int.tmod_nonneg _ (by omega), fun _ => Int.tmod_lt_of_pos _ (by omega)⟩
theorem dPick (s : List Int) (p z : Int) (xs : List Int) (h : At s p) (hx : xs ≠ []) (hl : xs.length ≤ 256) : ∃ v p' z', spec_l1PickInt.f s p z xs = some (v, p', z') ∧ At s p' ∧ v ∈ xs := by
  unfold spec_l1PickInt.f
  have hn : 0 < xs.length := List.length_pos_iff.2 hx; obtain ⟨v, p1, z1, e1, a1, b1, b2⟩ := dBelow s p z (xs.length : Int) h; rw [e1]; simp only [Option.bind_some]; have hv := b2 (by omega); rw [if_pos b1, if_pos hv]; obtain ⟨i, rfl⟩ := Int.eq_ofNat_of_zero_le b1; have hi : i < xs.length := by omega
  refine ⟨_, _, _, rfl, a1, ?_⟩
  have : rd xs (i : Int) = xs[i] := by unfold rd; simp [List.getD, hi]
  rw [this]; exact List.getElem_mem hi
theorem dOnce (s : List Int) (p z n : Int) (h : At s p) : ∃ v p' z', spec_l1Once.f s p z n = some (v, p', z') ∧ At s p' := by
  unfold spec_l1Once.f
  obtain ⟨v, p1, z1, e1, a1, b1, b2⟩ := dBelow s p z n h; rw [e1]; exact ⟨_, _, _, rfl, a1⟩
theorem dNew (s : List Int) (hs : s.length ≤ 1048576) (k : Nat) (hk : 4100 < k) : ∃ z, spec_l1New.f k s = some (s, 0, z) ∧ At s 0 := by
  unfold spec_l1New.f
  have : ∀ (d i k : Nat) (z : Int), i + d = 4000 → d < k → ∃ z', spec_l1New.l0 k s z (i : Int) = some (s, 0, z') := by
    intro d; induction d with
    | zero =>
      intro i k z hi hk; obtain ⟨k, rfl⟩ : ∃ j, k = j + 1 := ⟨k - 1, by omega⟩; simp only [spec_l1New.l0]
      obtain rfl : i = 4000 := by omega
      split
      · exact ⟨_, by rw [if_neg (by omega)]⟩
      · exact ⟨_, rfl⟩
    | succ d ih =>
      intro i k z hi hk; obtain ⟨k, rfl⟩ : ∃ j, k = j + 1 := ⟨k - 1, by omega⟩; simp only [spec_l1New.l0]
      split
      · rw [if_pos (by omega), if_pos (by omega), wrap_succ (n := 4000) (by omega) (by omega)]; exact ih (i + 1) k _ (by omega) (by omega)
      · exact ⟨_, rfl⟩
  obtain ⟨z, h⟩ := this 4000 0 k (wrap64 (72072 + (s.length : Int))) (by omega) (by omega); exact ⟨z, h, by unfold At; omega⟩
end Go.Proofs.Ytllpmpfchidhoaa.C
namespace Go.Proofs.Ytllpmpfchidhoaa.C
open Go.RowKit Go.Proofs.Ytllpmpfchidhoaa.P Go.Proofs.Ytllpmpfchidhoaa.G
abbrev Sl := S42
theorem rdSl (l : List Sl) (i : Nat) (h : i < l.length) : rd_T42 l (i : Int) = l[i] := by
  unfold rd_T42; simp [List.getD, h]
def slotOk (x : Sl) : Bool := decide (0 ≤ x.f0 ∧ x.f0 ≤ 7) && decide (1 ≤ x.f1 ∧ x.f1 ≤ 1000000)
def slotsOk (l : List Sl) : Bool := (List.range l.length).all fun i => match l[i]? with | some x => slotOk x | none => true
def planOk (st gap : Int) (l : List Sl) : Bool := decide (0 ≤ st ∧ st ≤ 1000000000000) && decide (0 ≤ gap ∧ gap ≤ 100000) && decide ((1 : Int) ≤ l.length ∧ (l.length : Int) ≤ 12) && slotsOk l
theorem slotsOk_get {l : List Sl} (h : slotsOk l = true) (i : Nat) (hi : i < l.length) : 0 ≤ l[i].f0 ∧ l[i].f0 ≤ 7 ∧ 1 ≤ l[i].f1 ∧ l[i].f1 ≤ 1000000 := by
  unfold slotsOk at h; rw [all_iff] at h
  have := h i hi; rw [List.getElem?_eq_getElem hi] at this; simp [slotOk] at this; omega
theorem planOk_iff (st gap : Int) (l : List Sl) : planOk st gap l = true ↔ (0 ≤ st ∧ st ≤ 1000000000000) ∧ (0 ≤ gap ∧ gap ≤ 100000) ∧ (1 ≤ l.length ∧ l.length ≤ 12) ∧ slotsOk l = true := by
  unfold planOk; simp only [Bool.and_eq_true, decide_eq_true_eq]; constructor
  · rintro ⟨⟨⟨h1, h2⟩, h3⟩, h4⟩; exact ⟨h1, h2, by omega, h4⟩
  · rintro ⟨h1, h2, h3, h4⟩; exact ⟨⟨⟨h1, h2⟩, by omega⟩, h4⟩
theorem iIndexSlot (l : List Sl) (hl : l.length ≤ 1048576) (k : Nat) (hk : l.length < k) : ∃ r, slices_IndexFunc_Slot.f k l = some r ∧ decide (r ≥ 0) = !slotsOk l := by
  have h1 : ∀ x : Sl, impl_PlanOk_1.f x.f0 x.f1 = some (!slotOk x) := by
    intro x; unfold impl_PlanOk_1.f slotOk; simp only [isNode, in_, Option.bind_some]
    cases decide (0 ≤ x.f0 ∧ x.f0 ≤ 7) <;> simp
  unfold slices_IndexFunc_Slot.f
  have := find_loop0 (n := l.length) (L := fun k i => slices_IndexFunc_Slot.l0 k l (l.length : Int) i) (Q := fun i => match l[i]? with | some x => !slotOk x | none => false) (r := fun i => (i : Int)) (e := -1) (c := 0) (fun k i hi _ => ?_) (fun k => ?_) k (by omega)
  · refine ⟨_, this, ?_⟩
    rcases first_of (Q := fun i => match l[i]? with | some x => !slotOk x | none => false) l.length with ⟨j, h2, h3, h4⟩ | h2
    · rw [found_some h2 h3 h4]; have : slotsOk l = false := by
        cases hs : slotsOk l with
        | false => rfl
        | true =>
          unfold slotsOk at hs; rw [all_iff] at hs
          have := hs j h2; rw [List.getElem?_eq_getElem h2] at this h3; simp at this h3; rw [this] at h3; cases h3
      rw [this]; simp
    · rw [found_none h2]; have : slotsOk l = true := by
        unfold slotsOk; rw [all_iff]; intro i hi
        have := h2 i hi; rw [List.getElem?_eq_getElem hi] at this ⊢; simpa using this
      rw [this]; simp
  · simp only [slices_IndexFunc_Slot.l0]
    rw [if_pos (by omega), if_pos (by omega), if_pos (by omega), wrap_succ hi (by omega), rdSl l i hi, h1, List.getElem?_eq_getElem hi]; rfl
  · simp only [slices_IndexFunc_Slot.l0]
    rw [if_neg (by omega)]
theorem iPlanOk (st gap : Int) (l : List Sl) (hl : l.length ≤ 1048576) (k : Nat) (hk : l.length < k) : impl_PlanOk.f k st gap l = some (planOk st gap l) := by
  obtain ⟨r, h1, h2⟩ := iIndexSlot l hl k hk; unfold impl_PlanOk.f planOk slices_ContainsFunc_Slot.f; simp only [isTime, in_, h1, h2, Option.bind_some]
  cases decide (0 ≤ st ∧ st ≤ 1000000000000) <;> cases decide (0 ≤ gap ∧ gap ≤ 100000) <;> cases decide ((1 : Int) ≤ l.length ∧ (l.length : Int) ≤ 12) <;> simp
theorem sPlanOk (st gap : Int) (l : List Sl) (hl : l.length ≤ 1048576) (k : Nat) (hk : l.length + 1 < k) : spec_PlanOk.f k st gap l = some (planOk st gap l) := by
  obtain ⟨k, rfl⟩ : ∃ j, k = j + 1 := ⟨k - 1, by omega⟩; have hL : spec_PlanOk.l0 k 0 st gap l = some (slotsOk l) := by
    unfold slotsOk
    have := all_loop0 (n := l.length) (L := fun k i => spec_PlanOk.l0 k i st gap l) (Q := fun i => match l[i]? with | some x => slotOk x | none => true) (e := true) (fun k i hi => ?_) (fun k => ?_) k (by omega)
    · simpa using this
    · simp only [spec_PlanOk.l0, l4Node, l1In, Option.bind_some]
      rw [if_pos (by omega), if_pos (by omega), wrap_succ hi (by omega), rdSl l i hi, List.getElem?_eq_getElem hi]; simp only [slotOk]
      by_cases h1 : (0 ≤ l[i].f0 ∧ l[i].f0 ≤ 7) <;> by_cases h2 : (1 ≤ l[i].f1 ∧ l[i].f1 ≤ 1000000) <;> simp [h1, h2]
    · simp only [spec_PlanOk.l0]
      rw [if_neg (by omega)]
  unfold spec_PlanOk.f planOk; simp only [l2Time, l1In, Option.bind_some, spec_PlanOk.j0, hL]
  cases decide (0 ≤ st ∧ st ≤ 1000000000000) <;> cases decide (0 ≤ gap ∧ gap ≤ 100000) <;> cases decide ((1 : Int) ≤ l.length ∧ (l.length : Int) ≤ 12) <;> simp
end Go.Proofs.Ytllpmpfchidhoaa.C
namespace Go.Proofs.Ytllpmpfchidhoaa.C
open Go.RowKit Go.Proofs.Ytllpmpfchidhoaa.P Go.Proofs.Ytllpmpfchidhoaa.G Go.Proofs.YtllpmpfchidhoaaW.PrintWords
theorem dCount (s : List Int) (p z : Int) (h : At s p) : ∃ v p' z', spec_l2DrawCount.f s p z = some (v, p', z') ∧ At s p' ∧ -1 ≤ v ∧ v ≤ 9223372036854775807 := by
  unfold spec_l2DrawCount.f
  obtain ⟨a, p1, z1, e1, a1, _, _⟩ := dBelow s p z 14 h; rw [e1]; simp only [Option.bind_some]; split
  · obtain ⟨v, p2, z2, e2, a2, hv⟩ := dPick s p1 z1 [(-1), 0, 1000000000000, 1000000000001, 500000000000, 666666666666, 9223372036854775807] a1 (by simp) (by simp); rw [e2]; refine ⟨_, _, _, rfl, a2, ?_⟩
    simp at hv; omega
  · split
    · obtain ⟨v, p2, z2, e2, a2, h1, h2⟩ := dBelow s p1 z1 1000000000 a1; rw [e2]; have := h2 (by omega); refine ⟨_, _, _, rfl, a2, ?_⟩
      rw [wrap_id (by omega) (by omega)]; omega
    · split
      · obtain ⟨v, p2, z2, e2, a2, h1, h2⟩ := dBelow s p1 z1 6 a1; rw [e2]; have := h2 (by omega); exact ⟨_, _, _, rfl, a2, by omega⟩
      · obtain ⟨v, p2, z2, e2, a2, h1, h2⟩ := dBelow s p1 z1 5000 a1; rw [e2]; have := h2 (by omega); exact ⟨_, _, _, rfl, a2, by omega⟩
theorem dPlanL (s : List Int) (st gap : Int) (n : Nat) (hn : n ≤ 12) : ∀ d i k p z (l : List Sl), i + d = n → d < k → At s p → l.length = i → (∀ y ∈ l, 0 ≤ y.f0 ∧ y.f0 ≤ 3 ∧ 1 ≤ y.f1 ∧ y.f1 ≤ 60) →
    ∃ l' p' z', spec_l13DrawPlan.l0 k (n : Int) (i : Int) s p z st gap l = some (st, gap, l', p', z') ∧ At s p' ∧ l'.length = n ∧ ∀ y ∈ l', 0 ≤ y.f0 ∧ y.f0 ≤ 3 ∧ 1 ≤ y.f1 ∧ y.f1 ≤ 60 := by
  intro d; induction d with
  | zero =>
    intro i k p z l hi hk h hl hy; obtain ⟨k, rfl⟩ : ∃ j, k = j + 1 := ⟨k - 1, by omega⟩; simp only [spec_l13DrawPlan.l0]
    rw [if_neg (by omega)]; exact ⟨_, _, _, rfl, h, by omega, hy⟩
  | succ d ih =>
    intro i k p z l hi hk h hl hy; obtain ⟨k, rfl⟩ : ∃ j, k = j + 1 := ⟨k - 1, by omega⟩; simp only [spec_l13DrawPlan.l0]
    obtain ⟨a, p1, z1, e1, a1, b1, b2⟩ := dBelow s p z 4 h; rw [if_pos (by omega), e1]; simp only [Option.bind_some]; obtain ⟨b, p2, z2, e2, a2, c1, c2⟩ := dBelow s p1 z1 60 a1; rw [e2]; simp only [Option.bind_some]; have := b2 (by omega); have := c2 (by omega); rw [if_pos (by omega), wrap_succ (n := n) (by omega) (by omega), wrap_id (x := 1 + b) (by omega) (by omega)]; refine ih (i + 1) k _ _ _ (by omega) (by omega) a2 (by simp; omega) (fun y hy2 => ?_)
    rw [List.mem_append] at hy2; rcases hy2 with hy2 | hy2
    · exact hy y hy2
    · simp at hy2; subst hy2; simp only; omega
theorem dPlan (s : List Int) (p z : Int) (h : At s p) (k : Nat) (hk : 20 ≤ k) : ∃ st gap l p' z', spec_l13DrawPlan.f k s p z = some (st, gap, l, p', z') ∧ At s p' ∧ (1 ≤ l.length ∧ l.length ≤ 12) ∧ (0 ≤ st ∧ st ≤ 39) ∧ (0 ≤ gap ∧ gap ≤ 5) ∧ ∀ y ∈ l, 0 ≤ y.f0 ∧ y.f0 ≤ 3 ∧ 1 ≤ y.f1 ∧ y.f1 ≤ 60 := by
  obtain ⟨k, rfl⟩ : ∃ j, k = j + 1 := ⟨k - 1, by omega⟩; unfold spec_l13DrawPlan.f
  obtain ⟨st, p1, z1, e1, a1, b1, b2⟩ := dBelow s p z 40 h; rw [e1]; simp only [Option.bind_some]; obtain ⟨gap, p2, z2, e2, a2, c1, c2⟩ := dBelow s p1 z1 6 a1; rw [e2]; simp only [Option.bind_some]; obtain ⟨n, p3, z3, e3, a3, d1, d2⟩ := dBelow s p2 z2 5 a2; rw [e3]; simp only [Option.bind_some]; obtain ⟨o, p4, z4, e4, a4⟩ := dOnce s p3 z3 20 a3; rw [e4]; simp only [Option.bind_some, spec_l13DrawPlan.j0]; have := b2 (by omega); have := c2 (by omega); have := d2 (by omega); have hP : ∀ m : Nat, 1 ≤ m → m ≤ 12 → ∃ l' p' z', spec_l13DrawPlan.l0 k (m : Int) 0 s p4 z4 st gap [] = some (st, gap, l', p', z') ∧ At s p' ∧ l'.length = m ∧ ∀ y ∈ l', 0 ≤ y.f0 ∧ y.f0 ≤ 3 ∧ 1 ≤ y.f1 ∧ y.f1 ≤ 60 := fun m h1 h2 => dPlanL s st gap m h2 m 0 k p4 z4 [] (by omega) (by omega) a4 rfl (fun y hy => by cases hy)
  split
  · obtain ⟨l, p5, z5, e5, a5, hl, hy⟩ := hP 12 (by omega) (by omega); exact ⟨_, _, _, _, _, e5, a5, by omega, by omega, by omega, hy⟩
  · rw [wrap_id (x := 1 + n) (by omega) (by omega)]; obtain ⟨m, hm⟩ := Int.eq_ofNat_of_zero_le (show 0 ≤ 1 + n by omega); rw [hm]; obtain ⟨l, p5, z5, e5, a5, hl, hy⟩ := hP m (by omega) (by omega); exact ⟨_, _, _, _, _, e5, a5, by omega, by omega, by omega, hy⟩
theorem dAnyL (s : List Int) (st gap p z : Int) : ∀ d k (l : List Sl), l.length + d = 13 → d < k → ∃ l', spec_l13DrawAny.l0 k s p z st gap l = some (st, gap, l', p, z) ∧ l'.length = 13 := by
  intro d; induction d with
  | zero =>
    intro k l hl hk; obtain ⟨k, rfl⟩ : ∃ j, k = j + 1 := ⟨k - 1, by omega⟩; simp only [spec_l13DrawAny.l0]
    rw [if_neg (by omega)]; exact ⟨_, rfl, by omega⟩
  | succ d ih =>
    intro k l hl hk; obtain ⟨k, rfl⟩ : ∃ j, k = j + 1 := ⟨k - 1, by omega⟩; simp only [spec_l13DrawAny.l0]
    rw [if_pos (by omega), if_pos (by omega)]; exact ih k _ (by simp; omega) (by omega)
theorem dAny (s : List Int) (p z : Int) (h : At s p) (k : Nat) (hk : 30 ≤ k) : ∃ st gap l p' z', spec_l13DrawAny.f k s p z = some (st, gap, l, p', z') ∧ At s p' ∧ l.length ≤ 13 := by
  unfold spec_l13DrawAny.f
  obtain ⟨st, gap, l, p1, z1, e1, a1, hl, _⟩ := dPlan s p z h k (by omega); rw [e1]; simp only [Option.bind_some]; obtain ⟨v, p2, z2, e2, a2, _, _⟩ := dBelow s p1 z1 25 a1; rw [e2]; simp only [Option.bind_some]; split
  · obtain ⟨w, p3, z3, e3, a3, _⟩ := dCount s p2 z2 a2; rw [e3]; exact ⟨_, _, _, _, _, rfl, a3, by omega⟩
  split
  · obtain ⟨w, p3, z3, e3, a3, _⟩ := dPick s p2 z2 [(-1), 100000, 100001] a2 (by simp) (by simp); rw [e3]; exact ⟨_, _, _, _, _, rfl, a3, by omega⟩
  split
  · obtain ⟨w, p3, z3, e3, a3, _⟩ := dPick s p2 z2 [(-1), 8, 7] a2 (by simp) (by simp); rw [e3]; simp only [Option.bind_some]; rw [if_pos (by omega)]; exact ⟨_, _, _, _, _, rfl, a3, by simp; omega⟩
  split
  · obtain ⟨w, p3, z3, e3, a3, _⟩ := dPick s p2 z2 [0, 1000000, 1000001] a2 (by simp) (by simp); rw [e3]; simp only [Option.bind_some]; rw [if_pos (by omega)]; exact ⟨_, _, _, _, _, rfl, a3, by simp; omega⟩
  split
  · exact ⟨_, _, _, _, _, rfl, a2, by simp⟩
  split
  · obtain ⟨l', e, hl'⟩ := dAnyL s st gap p2 z2 (13 - l.length) k l (by omega) (by omega); exact ⟨_, _, _, _, _, e, a2, by omega⟩
  · exact ⟨_, _, _, _, _, rfl, a2, by omega⟩
theorem dDrift2 (s : List Int) (p z : Int) (h : At s p) : ∃ n d p' z', spec_l2DrawDrift.f s p z = some (n, d, p', z') ∧ At s p' := by
  unfold spec_l2DrawDrift.f
  obtain ⟨a, p1, z1, e1, a1, _, _⟩ := dBelow s p z 6 h; rw [e1]; simp only [Option.bind_some]; obtain ⟨b, p2, z2, e2, a2, _, _⟩ := dBelow s p1 z1 90 a1; rw [e2]; simp only [Option.bind_some]; obtain ⟨c, p3, z3, e3, a3, _, _⟩ := dBelow s p2 z2 16 a2; rw [e3]; simp only [Option.bind_some]; split
  · obtain ⟨x, p4, z4, e4, a4, _⟩ := dPick s p3 z3 [0, 1, 500000, 500001, 100] a3 (by simp) (by simp); rw [e4]; simp only [Option.bind_some]; obtain ⟨y, p5, z5, e5, a5, _⟩ := dPick s p4 z4 [1000000, 1000001, 999999] a4 (by simp) (by simp); rw [e5]; exact ⟨_, _, _, _, rfl, a5⟩
  split
  · obtain ⟨x, p4, z4, e4, a4, _⟩ := dPick s p3 z3 [0, 1, (-1), 3] a3 (by simp) (by simp); rw [e4]; simp only [Option.bind_some]; obtain ⟨y, p5, z5, e5, a5, _⟩ := dPick s p4 z4 [0, 1, 2, 3, 6, (-1)] a4 (by simp) (by simp); rw [e5]; exact ⟨_, _, _, _, rfl, a5⟩
  split
  · exact ⟨_, _, _, _, rfl, a3⟩
  · exact ⟨_, _, _, _, rfl, a3⟩
end Go.Proofs.Ytllpmpfchidhoaa.C
namespace Go.Proofs.Ytllpmpfchidhoaa.C
open Go.RowKit Go.Proofs.Ytllpmpfchidhoaa.P Go.Proofs.Ytllpmpfchidhoaa.G
def ivalOk (a b : Int) : Bool := decide (-1000000000000 ≤ a) && decide (a ≤ b) && decide (b ≤ 1000000000000)
theorem ivalOk_iff (a b : Int) : ivalOk a b = true ↔ -1000000000000 ≤ a ∧ a ≤ b ∧ b ≤ 1000000000000 := by unfold ivalOk; simp; omega
theorem sIvalOk (a b : Int) : spec_IvalOk.f a b = some (ivalOk a b) := by
  have e : ivalOk a b = decide (-1000000000000 ≤ a ∧ a ≤ b ∧ b ≤ 1000000000000) := by
    rw [Bool.eq_iff_iff, ivalOk_iff, decide_eq_true_iff]
  rw [e]; unfold spec_IvalOk.f; simp only [l1In, Option.bind_some]
  by_cases h1 : a ≤ b
  · rw [if_pos h1]; by_cases h2 : (-1000000000000 ≤ a ∧ a ≤ 1000000000000)
    · rw [decide_eq_true h2, if_pos rfl]; congr 1; rw [decide_eq_decide]; omega
    · rw [decide_eq_false h2, if_neg (by decide)]; congr 1; symm; apply decide_eq_false; omega
  · rw [if_neg h1]; congr 1; symm; apply decide_eq_false; omega
theorem iIvalOk (a b : Int) : impl_IvalOk.f a b = some (ivalOk a b) := by
  unfold impl_IvalOk.f ivalOk
  by_cases h1 : a ≤ b <;> by_cases h2 : -1000000000000 ≤ a <;> by_cases h3 : b ≤ 1000000000000 <;> simp [h1, h2, h3]
def ivalT (a b : Int) : Int × Int × Bool := if ivalOk a b = true then (a, b, true) else (0, 0, false)
theorem sTold (a b : Int) : spec_l1Told.f a b = some (ivalT a b) := by
  unfold spec_l1Told.f ivalT; rw [sIvalOk]; simp only [Option.bind_some]; split <;> rfl
theorem iIval (a b : Int) : impl_ival.f a b = some (ivalT a b) := by
  unfold impl_ival.f ivalT; rw [iIvalOk]; simp only [Option.bind_some]; split <;> rfl
end Go.Proofs.Ytllpmpfchidhoaa.C
namespace Go.Proofs.Ytllpmpfchidhoaa.P
open Go.RowKit Go.Proofs.YtllpmpfchidhoaaW.PrintWords Go.Proofs.YtllpmpfchidhoaaW.PrintLast Go.Proofs.YtllpmpfchidhoaaW.PrintMore
attribute [local go_sem] max2_int min2_int max_two min_two max_three min_three max_four min_four
set_option linter.unusedVariables false
set_option linter.unusedSimpArgs false
end Go.Proofs.Ytllpmpfchidhoaa.P

namespace Go.Proofs.Ytllpmpfchidhoaa.P
open Go.RowKit Go.Proofs.YtllpmpfchidhoaaW.PrintWords Go.Proofs.YtllpmpfchidhoaaW.PrintLast Go.Proofs.YtllpmpfchidhoaaW.PrintMore
attribute [local go_sem] max2_int min2_int max_two min_two max_three min_three max_four min_four
set_option linter.unusedVariables false
set_option linter.unusedSimpArgs false
end Go.Proofs.Ytllpmpfchidhoaa.P

namespace Go.Proofs.Ytllpmpfchidhoaa.C
open Go.RowKit Go.Proofs.Ytllpmpfchidhoaa.P Go.Proofs.Ytllpmpfchidhoaa.G
def uptoL (gap : Int) : List Sl → Int
  | [] => 0
  | x :: xs => x.f1 + gap + uptoL gap xs
theorem uptoL_append (gap : Int) (a b : List Sl) : uptoL gap (a ++ b) = uptoL gap a + uptoL gap b := by
  induction a with
  | nil => simp [uptoL]
  | cons x xs ih => simp only [List.cons_append, uptoL, ih]; omega
def upto (gap : Int) (l : List Sl) (n : Nat) : Int := uptoL gap (l.take n)
theorem upto_zero (gap : Int) (l : List Sl) : upto gap l 0 = 0 := rfl
theorem upto_succ (gap : Int) (l : List Sl) (i : Nat) (h : i < l.length) : upto gap l (i + 1) = upto gap l i + (l[i].f1 + gap) := by
  unfold upto; rw [List.take_succ_eq_append_getElem h, uptoL_append]; simp [uptoL]
def round (gap : Int) (l : List Sl) : Int := upto gap l l.length
theorem upto_bd {st gap : Int} {l : List Sl} (h : planOk st gap l = true) : ∀ n, n ≤ l.length → (n : Int) ≤ upto gap l n ∧ upto gap l n ≤ 1100000 * n := by
  rw [planOk_iff] at h; intro n; induction n with
  | zero => intro _; rw [upto_zero]; omega
  | succ n ih =>
    intro hn; have h1 := ih (by omega); have h2 := slotsOk_get h.2.2.2 n (by omega); rw [upto_succ gap l n (by omega)]; omega
theorem round_bd {st gap : Int} {l : List Sl} (h : planOk st gap l = true) : 1 ≤ round gap l ∧ round gap l ≤ 13200000 := by
  have h1 := upto_bd h l.length (Nat.le_refl _); rw [planOk_iff] at h; unfold round; omega
theorem upto_mono {st gap : Int} {l : List Sl} (h : planOk st gap l = true) (i : Nat) : ∀ j, (hj : i < j) → (hl : j ≤ l.length) → upto gap l i + (l[i]'(by omega)).f1 + gap ≤ upto gap l j := by
  have h' := h; rw [planOk_iff] at h'; intro j; induction j with
  | zero => intro hj; omega
  | succ j ih =>
    intro hj hl; rw [upto_succ gap l j (by omega)]; have h2 := slotsOk_get h'.2.2.2 j (by omega); rcases Nat.lt_or_ge i j with c | c
    · have := ih c (by omega); omega
    · obtain rfl : i = j := by omega
      omega
theorem iFrom {st gap : Int} {l : List Sl} (h : planOk st gap l = true) (n : Nat) (hn : n ≤ l.length) (k : Nat) (hk : 20 ≤ k) : impl_Plan_from.f k st gap l (n : Int) = some (upto gap l n) := by
  have h' := h; rw [planOk_iff] at h'; unfold impl_Plan_from.f
  rw [if_pos (by omega), if_pos (by omega)]; simp only [Option.bind_some, Int.toNat_natCast]
  have hy : (l.take n).length = n := by simp; omega
  rw [hy]; refine track_loop0 (n := n) (c := 0) (L := fun k s i => impl_Plan_from.l0 k s (l.take n) (n : Int) i st gap l) (F := fun i => upto gap l i) (fun k i hi _ => ?_) (fun k _ => ?_) k (by omega)
  · simp only [impl_Plan_from.l0]
    have hb := upto_bd h i (by omega); have hs := slotsOk_get h'.2.2.2 i (by omega); rw [if_pos (by omega), if_pos (by omega), if_pos (by omega), wrap_succ hi (by omega), rdSl (l.take n) i (by omega), List.getElem_take, upto_succ gap l i (by omega), wrap_id (x := l[i].f1 + gap) (by omega) (by omega), wrap_id (by omega) (by omega)]
  · simp only [impl_Plan_from.l0]
    rw [if_neg (by omega)]
theorem iRound {st gap : Int} {l : List Sl} (h : planOk st gap l = true) (k : Nat) (hk : 20 ≤ k) : impl_Plan_round.f k st gap l = some (round gap l) := by
  unfold impl_Plan_round.f; rw [iFrom h l.length (Nat.le_refl _) k hk]; rfl
theorem sUpto {st gap : Int} {l : List Sl} (h : planOk st gap l = true) (n : Nat) (hn : n ≤ l.length) (k : Nat) (hk : 20 ≤ k) : spec_l13Upto.f k st gap l (n : Int) = some (upto gap l n) := by
  have h' := h; rw [planOk_iff] at h'; unfold spec_l13Upto.f
  refine track_loop0 (n := n) (c := 0) (L := fun k s i => spec_l13Upto.l0 k (n : Int) s i st gap l) (F := fun i => upto gap l i) (fun k i hi _ => ?_) (fun k _ => ?_) k (by omega)
  · simp only [spec_l13Upto.l0]
    have hb := upto_bd h i (by omega); have hs := slotsOk_get h'.2.2.2 i (by omega); rw [if_pos (by omega), if_pos (by omega), if_pos (by omega), wrap_succ hi (by omega), rdSl l i (by omega), upto_succ gap l i (by omega), wrap_id (x := upto gap l i + l[i].f1) (by omega) (by omega), wrap_id (by omega) (by omega)]; congr 1; omega
  · simp only [spec_l13Upto.l0]
    rw [if_neg (by omega)]
theorem sRoundOf' {st gap : Int} {l : List Sl} (h : planOk st gap l = true) (k : Nat) (hk : 20 ≤ k) : spec_RoundOf.f k st gap l = some (round gap l) := by
  have h' := h; rw [planOk_iff] at h'; unfold spec_RoundOf.f; rw [sPlanOk st gap l (by omega) k (by omega), h]
  simp only [Option.bind_some]
  rw [if_pos trivial, sUpto h l.length (Nat.le_refl _) k (by omega)]; rfl
def isSlot (st gap : Int) (l : List Sl) (i : Int) : Bool := planOk st gap l && decide (0 ≤ i ∧ i < l.length)
theorem isSlot_iff (st gap : Int) (l : List Sl) (i : Int) : isSlot st gap l i = true ↔ planOk st gap l = true ∧ 0 ≤ i ∧ i < l.length := by unfold isSlot; simp
theorem sSlot (st gap : Int) (l : List Sl) (hl : l.length ≤ 1048576) (i : Int) (k : Nat) (hk : 1050000 ≤ k) : spec_l13Slot.f k st gap l i = some (isSlot st gap l i) := by
  unfold spec_l13Slot.f isSlot; rw [sPlanOk st gap l hl k (by omega)]
  simp only [Option.bind_some, l1In]
  rw [wrap_id (by omega) (by omega)]
  cases planOk st gap l with
  | false => rfl
  | true => rw [if_pos rfl, Bool.true_and]; congr 1; rw [decide_eq_decide]; omega
theorem sSlot' {st gap : Int} {l : List Sl} (h : planOk st gap l = true) (i : Nat) (hi : i < l.length) (k : Nat) (hk : 20 ≤ k) : spec_l13Slot.f k st gap l (i : Int) = some true := by
  have h' := h; rw [planOk_iff] at h'; unfold spec_l13Slot.f; rw [sPlanOk st gap l (by omega) k (by omega), h]
  simp only [Option.bind_some, l1In]
  rw [wrap_id (by omega) (by omega), if_pos trivial, decide_eq_true (by omega)]
theorem iSlot (st gap : Int) (l : List Sl) (hl : l.length ≤ 1048576) (i : Int) (k : Nat) (hk : 1050000 ≤ k) : impl_isSlot.f k st gap l i = some (isSlot st gap l i) := by
  unfold impl_isSlot.f isSlot; rw [iPlanOk st gap l hl k (by omega)]
  simp only [Option.bind_some, in_]
  rw [wrap_id (by omega) (by omega)]
  cases planOk st gap l with
  | false => rfl
  | true => rw [if_pos rfl, Bool.true_and]; congr 1; rw [decide_eq_decide]; omega
theorem iSlot' {st gap : Int} {l : List Sl} (h : planOk st gap l = true) (i : Nat) (hi : i < l.length) (k : Nat) (hk : 20 ≤ k) : impl_isSlot.f k st gap l (i : Int) = some true := by
  have h' := h; rw [planOk_iff] at h'; unfold impl_isSlot.f; rw [iPlanOk st gap l (by omega) k (by omega), h]
  simp only [Option.bind_some, in_]
  rw [wrap_id (by omega) (by omega), if_pos trivial, decide_eq_true (by omega)]
def occ (st gap : Int) (l : List Sl) (i : Nat) (q : Int) : Int × Int × Bool := if 0 ≤ q ∧ q ≤ 1000000000000 / round gap l then ivalT (st + q * round gap l + upto gap l i) (st + q * round gap l + upto gap l i + (match l[i]? with | some x => x.f1 | none => 0)) else (0, 0, false)
def occurrence (st gap : Int) (l : List Sl) (i q : Int) : Int × Int × Bool := if isSlot st gap l i = true then occ st gap l i.toNat q else (0, 0, false)
theorem q_bd {r q : Int} (hr : 1 ≤ r) (h : 0 ≤ q ∧ q ≤ 1000000000000 / r) : 0 ≤ q * r ∧ q * r ≤ 1000000000000 ∧ q ≤ 1000000000000 := by
  have h1 : q * r ≤ 1000000000000 := Int.le_trans (Int.mul_le_mul_of_nonneg_right h.2 (by omega)) (Int.ediv_mul_le _ (by omega)); have h2 : 0 ≤ q * r := Int.mul_nonneg h.1 (by omega); have h3 : q * 1 ≤ q * r := Int.mul_le_mul_of_nonneg_left hr h.1; omega
theorem div_bd {r : Int} (hr : 1 ≤ r) : 0 ≤ (1000000000000 : Int) / r ∧ (1000000000000 : Int) / r ≤ 1000000000000 :=
  ⟨Int.ediv_nonneg (by omega) (by omega), Int.ediv_le_self _ (by omega)⟩
theorem occ_told {st gap : Int} {l : List Sl} (h : planOk st gap l = true) (i : Nat) (hi : i < l.length) (q : Int) (hq : 0 ≤ q ∧ q ≤ 1000000000000 / round gap l) :
    (0 ≤ st + q * round gap l + upto gap l i ∧ st + q * round gap l + upto gap l i + l[i].f1 ≤ 3000000000000) ∧ wrap64 (wrap64 (st + wrap64 (q * round gap l)) + upto gap l i) = st + q * round gap l + upto gap l i ∧ wrap64 (st + q * round gap l + upto gap l i + l[i].f1) = st + q * round gap l + upto gap l i + l[i].f1 := by
  have hr := round_bd h; have hb := q_bd hr.1 hq; have hu := upto_bd h i (by omega); rw [planOk_iff] at h; have hs := slotsOk_get h.2.2.2 i hi; refine ⟨by omega, ?_, wrap_id (by omega) (by omega)⟩
  rw [wrap_id (x := q * round gap l) (by omega) (by omega), wrap_id (x := st + q * round gap l) (by omega) (by omega), wrap_id (by omega) (by omega)]
theorem sOcc {st gap : Int} {l : List Sl} (h : planOk st gap l = true) (i : Nat) (hi : i < l.length) (q : Int) (k : Nat) (hk : 30 ≤ k) : spec_Occurrence.f k st gap l (i : Int) q = some (occ st gap l i q) := by
  obtain ⟨k, rfl⟩ : ∃ j, k = j + 1 := ⟨k - 1, by omega⟩; have hr := round_bd h; have hd := div_bd hr.1; unfold spec_Occurrence.f occ
  rw [sSlot' h i hi _ (by omega), sRoundOf' h _ (by omega)]; simp only [Option.bind_some, l1In, spec_Occurrence.j0, if_true]
  rw [sRoundOf' h _ (by omega), sUpto h i (by omega) _ (by omega)]; simp only [Option.bind_some]
  rw [if_neg (show ¬ round gap l = 0 by omega), Int.tdiv_eq_ediv_of_nonneg (by omega : (0 : Int) ≤ 1000000000000), wrap_id (x := 1000000000000 / round gap l) (by omega) (by omega), if_pos (show (0 : Int) ≤ i by omega), if_pos (show (i : Int) < l.length by omega), rdSl l i hi, List.getElem?_eq_getElem hi]; by_cases hq : 0 ≤ q ∧ q ≤ 1000000000000 / round gap l
  · have ht := occ_told h i hi q hq; have hb := q_bd hr.1 hq; rw [decide_eq_true (by omega : 0 ≤ q ∧ q ≤ 1000000000000), if_pos rfl, decide_eq_false (by omega), if_neg (by decide), if_pos hq, ht.2.1, ht.2.2, sTold]; rfl
  · rw [if_neg hq]; by_cases h1 : 0 ≤ q ∧ q ≤ 1000000000000
    · rw [decide_eq_true h1, if_pos rfl, decide_eq_true (by omega), if_pos rfl]
    · rw [decide_eq_false h1]; rfl
theorem iOcc {st gap : Int} {l : List Sl} (h : planOk st gap l = true) (i : Nat) (hi : i < l.length) (q : Int) (k : Nat) (hk : 30 ≤ k) : impl_Occurrence.f k st gap l (i : Int) q = some (occ st gap l i q) := by
  obtain ⟨k, rfl⟩ : ∃ j, k = j + 1 := ⟨k - 1, by omega⟩; have hr := round_bd h; have hd := div_bd hr.1; unfold impl_Occurrence.f occ
  rw [iSlot' h i hi _ (by omega), iRound h _ (by omega)]; simp only [Option.bind_some, in_, impl_Occurrence.j0, if_true]
  rw [iRound h _ (by omega), iFrom h i (by omega) _ (by omega)]; simp only [Option.bind_some]
  rw [if_neg (show ¬ round gap l = 0 by omega), Int.tdiv_eq_ediv_of_nonneg (by omega : (0 : Int) ≤ 1000000000000), wrap_id (x := 1000000000000 / round gap l) (by omega) (by omega), if_pos (show (0 : Int) ≤ i by omega), if_pos (show (i : Int) < l.length by omega), rdSl l i hi, List.getElem?_eq_getElem hi]; by_cases hq : 0 ≤ q ∧ q ≤ 1000000000000 / round gap l
  · have ht := occ_told h i hi q hq; rw [decide_eq_true hq, if_neg (by decide), if_pos hq, ht.2.1, ht.2.2, iIval]; rfl
  · rw [if_neg hq, decide_eq_false hq]; rfl
theorem sOccurrence (st gap : Int) (l : List Sl) (hl : l.length ≤ 1048576) (i q : Int) (k : Nat) (hk : 1050100 ≤ k) : spec_Occurrence.f k st gap l i q = some (occurrence st gap l i q) := by
  unfold occurrence
  cases h : isSlot st gap l i with
  | false =>
    obtain ⟨k, rfl⟩ : ∃ j, k = j + 1 := ⟨k - 1, by omega⟩; unfold spec_Occurrence.f
    rw [sSlot st gap l hl i _ (by omega), h]; simp only [Option.bind_some, spec_Occurrence.j0]
    rfl
  | true =>
    rw [isSlot_iff] at h; obtain ⟨n, rfl⟩ := Int.eq_ofNat_of_zero_le h.2.1; rw [sOcc h.1 n (by omega) q k (by omega)]; rfl
theorem iOccurrence (st gap : Int) (l : List Sl) (hl : l.length ≤ 1048576) (i q : Int) (k : Nat) (hk : 1050100 ≤ k) : impl_Occurrence.f k st gap l i q = some (occurrence st gap l i q) := by
  unfold occurrence
  cases h : isSlot st gap l i with
  | false =>
    obtain ⟨k, rfl⟩ : ∃ j, k = j + 1 := ⟨k - 1, by omega⟩; unfold impl_Occurrence.f
    rw [iSlot st gap l hl i _ (by omega), h]; simp only [Option.bind_some, impl_Occurrence.j0]
    rfl
  | true =>
    rw [isSlot_iff] at h; obtain ⟨n, rfl⟩ := Int.eq_ofNat_of_zero_le h.2.1; rw [iOcc h.1 n (by omega) q k (by omega)]; rfl
end Go.Proofs.Ytllpmpfchidhoaa.C
namespace Go.Proofs.Ytllpmpfchidhoaa.P
open Go.RowKit Go.Proofs.YtllpmpfchidhoaaW.PrintWords Go.Proofs.YtllpmpfchidhoaaW.PrintLast Go.Proofs.YtllpmpfchidhoaaW.PrintMore
attribute [local go_sem] max2_int min2_int max_two min_two max_three min_three max_four min_four
set_option linter.unusedVariables false
set_option linter.unusedSimpArgs false
end Go.Proofs.Ytllpmpfchidhoaa.P

namespace Go.Proofs.Ytllpmpfchidhoaa.P
open Go.RowKit Go.Proofs.YtllpmpfchidhoaaW.PrintWords Go.Proofs.YtllpmpfchidhoaaW.PrintLast Go.Proofs.YtllpmpfchidhoaaW.PrintMore
attribute [local go_sem] max2_int min2_int max_two min_two max_three min_three max_four min_four
set_option linter.unusedVariables false
set_option linter.unusedSimpArgs false
end Go.Proofs.Ytllpmpfchidhoaa.P

namespace Go.Proofs.Ytllpmpfchidhoaa.P
open Go.RowKit Go.Proofs.YtllpmpfchidhoaaW.PrintWords Go.Proofs.YtllpmpfchidhoaaW.PrintLast Go.Proofs.YtllpmpfchidhoaaW.PrintMore
attribute [local go_sem] max2_int min2_int max_two min_two max_three min_three max_four min_four
set_option linter.unusedVariables false
set_option linter.unusedSimpArgs false
end Go.Proofs.Ytllpmpfchidhoaa.P

namespace Go.Proofs.Ytllpmpfchidhoaa.C
open Go.RowKit Go.Proofs.Ytllpmpfchidhoaa.P Go.Proofs.Ytllpmpfchidhoaa.G Go.Proofs.YtllpmpfchidhoaaW.PrintMore
def inS (gap : Int) (l : List Sl) (left : Int) (i : Nat) : Bool := decide (upto gap l i ≤ left) && decide (left < upto gap l (i + 1) - gap)
theorem inS_iff {gap : Int} {l : List Sl} {left : Int} {i : Nat} (hi : i < l.length) : inS gap l left i = true ↔ upto gap l i ≤ left ∧ left < upto gap l i + l[i].f1 := by
  unfold inS; rw [upto_succ gap l i hi]; simp; omega
theorem inS_one {st gap : Int} {l : List Sl} (h : planOk st gap l = true) {left : Int} {i j : Nat} (hi : i < l.length) (hj : j < l.length) (h1 : inS gap l left i = true) (h2 : inS gap l left j = true) : i = j := by
  rw [inS_iff hi] at h1; rw [inS_iff hj] at h2; rcases Nat.lt_trichotomy i j with c | c | c
  · have := upto_mono h i j c (by omega); rw [planOk_iff] at h; omega
  · exact c
  · have := upto_mono h j i c (by omega); rw [planOk_iff] at h; omega
def slotAtQ (st gap : Int) (l : List Sl) (t : Int) : Int × Int × Bool :=
  found (inS gap l ((t - st) % round gap l)) (fun i => if (occ st gap l i ((t - st) / round gap l)).2.2 = true then ((i : Int), (t - st) / round gap l, true) else (0, 0, false)) (0, 0, false) (List.range l.length)
def slotAt (st gap : Int) (l : List Sl) (t : Int) : Int × Int × Bool := if (planOk st gap l && timeOk t && decide (st ≤ t)) = true then slotAtQ st gap l t else (0, 0, false)
theorem when_q {st gap : Int} {l : List Sl} (h : planOk st gap l = true) {t : Int} (ht : 0 ≤ t ∧ t ≤ 1000000000000) (hs : st ≤ t) :
    0 ≤ (t - st) / round gap l ∧ (t - st) / round gap l ≤ 1000000000000 / round gap l ∧ (t - st) / round gap l ≤ 1000000000000 ∧ 0 ≤ (t - st) % round gap l ∧ (t - st) % round gap l < round gap l ∧ (t - st) / round gap l * round gap l + (t - st) % round gap l = t - st := by
  have hr := round_bd h; rw [planOk_iff] at h; have h1 := Int.mul_ediv_add_emod (t - st) (round gap l); rw [Int.mul_comm] at h1; refine ⟨Int.ediv_nonneg (by omega) (by omega), Int.ediv_le_ediv (by omega) (by omega), ?_, Int.emod_nonneg _ (by omega), Int.emod_lt_of_pos _ (by omega), h1⟩
  have := Int.ediv_le_self (round gap l) (show 0 ≤ t - st by omega); omega
theorem occ_eq {st gap : Int} {l : List Sl} {i : Nat} (hi : i < l.length) {q : Int} (hq : 0 ≤ q ∧ q ≤ 1000000000000 / round gap l) : occ st gap l i q = ivalT (st + q * round gap l + upto gap l i) (st + q * round gap l + upto gap l i + l[i].f1) := by
  unfold occ; rw [if_pos hq, List.getElem?_eq_getElem hi]
theorem ivalT_ok {a b : Int} (h : (ivalT a b).2.2 = true) : ivalT a b = (a, b, true) ∧ ivalOk a b = true := by
  unfold ivalT at h ⊢
  cases hv : ivalOk a b with
  | true => exact ⟨rfl, rfl⟩
  | false => rw [hv] at h; simp at h
theorem occ_in {st gap : Int} {l : List Sl} (h : planOk st gap l = true) {t : Int} (ht : 0 ≤ t ∧ t ≤ 1000000000000) (hs : st ≤ t) (i : Nat) (hi : i < l.length) (ho : (occ st gap l i ((t - st) / round gap l)).2.2 = true) :
    ((occ st gap l i ((t - st) / round gap l)).1 ≤ t ∧ t < (occ st gap l i ((t - st) / round gap l)).2.1) ↔ inS gap l ((t - st) % round gap l) i = true := by
  have hq := when_q h ht hs; rw [inS_iff hi]; rw [occ_eq hi ⟨hq.1, hq.2.1⟩] at ho ⊢; rw [(ivalT_ok ho).1]; simp only
  omega
theorem iSlotAtQ {st gap : Int} {l : List Sl} (h : planOk st gap l = true) {t : Int} (ht : 0 ≤ t ∧ t ≤ 1000000000000) (hs : st ≤ t) (k : Nat) (hk : 60 ≤ k) : impl_SlotAt.j0 k t false st gap l = some (slotAtQ st gap l t) := by
  obtain ⟨k, rfl⟩ : ∃ j, k = j + 1 := ⟨k - 1, by omega⟩; have hr := round_bd h; have hq := when_q h ht hs; have h' := h; rw [planOk_iff] at h'; simp only [impl_SlotAt.j0]
  rw [if_neg (by decide), iRound h _ (by omega)]; simp only [Option.bind_some]
  rw [if_neg (by omega), wrap_id (x := t - st) (by omega) (by omega), Int.tdiv_eq_ediv_of_nonneg (by omega), Int.tmod_eq_emod_of_nonneg (by omega), wrap_id (by omega) (by omega)]; rw [if_neg (by omega)]; unfold slotAtQ
  refine find_loop0 (n := l.length) (c := 35) (L := fun k i => impl_SlotAt.l0 k ((t - st) / round gap l) ((t - st) % round gap l) l (l.length : Int) i st gap l) (fun k i hi hk => ?_) (fun k => ?_) k (by omega)
  · simp only [impl_SlotAt.l0]
    have hb := upto_bd h i (by omega); have hsl := slotsOk_get h'.2.2.2 i hi; rw [if_pos (by omega), if_pos (by omega), if_pos (by omega), wrap_succ hi (by omega), rdSl l i hi, iFrom h i (by omega) _ (by omega)]; simp only [Option.bind_some, in_]
    rw [wrap_id (x := upto gap l i + l[i].f1) (by omega) (by omega), wrap_id (x := upto gap l i + l[i].f1 - 1) (by omega) (by omega), iOcc h i hi _ _ (by omega)]; simp only [Option.bind_some]
    cases hc : inS gap l ((t - st) % round gap l) i with
    | true =>
      have := (inS_iff hi).1 hc; rw [decide_eq_true (by omega), if_pos rfl, if_pos rfl]; split <;> rfl
    | false =>
      have : ¬ (upto gap l i ≤ (t - st) % round gap l ∧ (t - st) % round gap l < upto gap l i + l[i].f1) := by rw [← inS_iff hi, hc]; simp
      rw [decide_eq_false (by omega), if_neg (by decide), if_neg (by decide)]
  · simp only [impl_SlotAt.l0]
    rw [if_neg (by omega)]
theorem sSlotAtQ {st gap : Int} {l : List Sl} (h : planOk st gap l = true) {t : Int} (ht : 0 ≤ t ∧ t ≤ 1000000000000) (hs : st ≤ t) (k : Nat) (hk : 60 ≤ k) : spec_SlotAt.j0 k t false st gap l = some (slotAtQ st gap l t) := by
  obtain ⟨k, rfl⟩ : ∃ j, k = j + 1 := ⟨k - 1, by omega⟩; have hr := round_bd h; have hq := when_q h ht hs; have h' := h; rw [planOk_iff] at h'; simp only [spec_SlotAt.j0]
  rw [if_neg (by decide), sRoundOf' h _ (by omega)]; simp only [Option.bind_some]
  rw [if_neg (by omega), wrap_id (x := t - st) (by omega) (by omega), Int.tdiv_eq_ediv_of_nonneg (by omega), wrap_id (by omega) (by omega)]; have hL := find_loop0 (n := l.length) (c := 35) (L := fun k i => spec_SlotAt.l0 k t ((t - st) / round gap l) i st gap l) (Q := fun i => (occ st gap l i ((t - st) / round gap l)).2.2 && inS gap l ((t - st) % round gap l) i) (r := fun i => ((i : Int), (t - st) / round gap l, true)) (e := (0, 0, false)) (fun k i hi hk => ?_) (fun k => ?_) k (by omega)
  · rw [hL]; congr 1
    unfold slotAtQ
    rcases first_of (Q := inS gap l ((t - st) % round gap l)) l.length with ⟨j, h1, h2, h3⟩ | h1
    · rw [found_some h1 h2 h3]
      cases ho : (occ st gap l j ((t - st) / round gap l)).2.2 with
      | true =>
        rw [if_pos rfl]; refine found_some h1 (by rw [ho, h2]; rfl) (fun i hi => by rw [h3 i hi]; simp)
      | false =>
        rw [if_neg (by decide)]; refine found_none (fun i hi => ?_)
        cases hc : inS gap l ((t - st) % round gap l) i with
        | false => simp
        | true => obtain rfl := inS_one h hi h1 hc h2; rw [ho]; rfl
    · rw [found_none h1]; refine found_none (fun i hi => by rw [h1 i hi]; simp)
  · simp only [spec_SlotAt.l0]
    rw [if_pos (by omega), wrap_succ hi (by omega), sOcc h i hi _ _ (by omega)]; simp only [Option.bind_some]
    cases ho : (occ st gap l i ((t - st) / round gap l)).2.2 with
    | false => simp
    | true =>
      have hio := occ_in h ht hs i hi ho; rw [if_pos rfl, Bool.true_and]
      cases hc : inS gap l ((t - st) % round gap l) i with
      | true =>
        have := hio.2 hc; rw [if_pos this.1, if_pos this.2, if_pos rfl]
      | false =>
        rw [hc] at hio; by_cases hx : (occ st gap l i ((t - st) / round gap l)).1 ≤ t
        · rw [if_pos hx, if_neg (fun hy => by have := hio.1 ⟨hx, hy⟩; cases this), if_neg (by decide)]
        · rw [if_neg hx, if_neg (by decide)]
  · simp only [spec_SlotAt.l0]
    rw [if_neg (by omega)]
theorem iSlotAt (st gap : Int) (l : List Sl) (hl : l.length ≤ 1048576) (t : Int) (k : Nat) (hk : 1050000 ≤ k) : impl_SlotAt.f k st gap l t = some (slotAt st gap l t) := by
  have hj : ∀ k, 1 ≤ k → impl_SlotAt.j0 k t true st gap l = some (0, 0, false) := fun k hk => by
    obtain ⟨k, rfl⟩ : ∃ j, k = j + 1 := ⟨k - 1, by omega⟩; simp only [impl_SlotAt.j0]; rfl
  unfold impl_SlotAt.f slotAt
  rw [iPlanOk st gap l hl k (by omega), isTime]; simp only [Option.bind_some]
  change (if planOk st gap l = true then (if timeOk t = true then _ else _) else _) = _
  cases h : planOk st gap l with
  | false => rw [hj k (by omega)]; rfl
  | true =>
    cases h2 : timeOk t with
    | false => rw [hj k (by omega)]; rfl
    | true =>
      rw [timeOk_iff] at h2; by_cases h3 : t < st
      · rw [decide_eq_true h3, hj k (by omega), decide_eq_false (by omega)]; rfl
      · rw [decide_eq_false h3, iSlotAtQ h h2 (by omega) k (by omega), decide_eq_true (by omega)]; rfl
theorem sSlotAt (st gap : Int) (l : List Sl) (hl : l.length ≤ 1048576) (t : Int) (k : Nat) (hk : 1050000 ≤ k) : spec_SlotAt.f k st gap l t = some (slotAt st gap l t) := by
  have hj : ∀ k, 1 ≤ k → spec_SlotAt.j0 k t true st gap l = some (0, 0, false) := fun k hk => by
    obtain ⟨k, rfl⟩ : ∃ j, k = j + 1 := ⟨k - 1, by omega⟩; simp only [spec_SlotAt.j0]; rfl
  unfold spec_SlotAt.f slotAt
  rw [sPlanOk st gap l hl k (by omega), l2Time]; simp only [Option.bind_some]
  change (if planOk st gap l = true then (if timeOk t = true then _ else _) else _) = _
  cases h : planOk st gap l with
  | false => rw [hj k (by omega)]; rfl
  | true =>
    cases h2 : timeOk t with
    | false => rw [hj k (by omega)]; rfl
    | true =>
      rw [timeOk_iff] at h2; by_cases h3 : t < st
      · rw [decide_eq_true h3, hj k (by omega), decide_eq_false (by omega)]; rfl
      · rw [decide_eq_false h3, sSlotAtQ h h2 (by omega) k (by omega), decide_eq_true (by omega)]; rfl
theorem slotAt_in {st gap : Int} {l : List Sl} {t : Int} (h : (slotAt st gap l t).2.2 = true) : ∃ i : Nat, i < l.length ∧ (slotAt st gap l t).1 = (i : Int) ∧ planOk st gap l = true ∧ timeOk t = true ∧ st ≤ t ∧ (slotAt st gap l t).2.1 = (t - st) / round gap l ∧ inS gap l ((t - st) % round gap l) i = true ∧ (occ st gap l i ((t - st) / round gap l)).2.2 = true := by
  unfold slotAt at h ⊢
  split at h
  · rename_i hc
    rw [if_pos hc]; simp only [Bool.and_eq_true, decide_eq_true_eq] at hc
    unfold slotAtQ at h ⊢
    rcases first_of (Q := inS gap l ((t - st) % round gap l)) l.length with ⟨j, h1, h2, h3⟩ | h1
    · rw [found_some h1 h2 h3] at h ⊢; split at h
      · rename_i ho
        rw [if_pos ho]; exact ⟨j, h1, rfl, hc.1.1, hc.1.2, hc.2, rfl, h2, ho⟩
      · simp at h
    · rw [found_none h1] at h; simp at h
  · simp at h
def inSlot (st gap : Int) (l : List Sl) (owner a b : Int) : Int × Int × Bool :=
  if (slotAt st gap l a).2.2 = true ∧ (match l[(slotAt st gap l a).1.toNat]? with | some x => x.f0 | none => -1) = owner ∧ a ≤ b ∧ b ≤ (occurrence st gap l (slotAt st gap l a).1 (slotAt st gap l a).2.1).2.1
  then ((slotAt st gap l a).1, (slotAt st gap l a).2.1, true) else (0, 0, false)
theorem sInSlot (st gap : Int) (l : List Sl) (hl : l.length ≤ 1048576) (owner a b : Int) (k : Nat) (hk : 1050200 ≤ k) : spec_InSlot.f k st gap l owner a b = some (inSlot st gap l owner a b) := by
  obtain ⟨k, rfl⟩ : ∃ j, k = j + 1 := ⟨k - 1, by omega⟩; unfold spec_InSlot.f inSlot
  rw [sSlotAt st gap l hl a _ (by omega)]; simp only [Option.bind_some, spec_InSlot.j0]
  rw [sOccurrence st gap l hl _ _ _ (by omega)]; simp only [Option.bind_some, if_true]
  cases h : (slotAt st gap l a).2.2 with
  | false => simp
  | true =>
    obtain ⟨i, hi, e, _⟩ := slotAt_in h; rw [if_pos rfl, e, if_pos (by omega), if_pos (by omega), rdSl l i hi]; have e2 : ((i : Int)).toNat = i := by omega
    rw [e2, List.getElem?_eq_getElem hi]; simp only
    by_cases h1 : l[i].f0 = owner
    · rw [if_pos h1]; by_cases h2 : a > b
      · rw [decide_eq_true h2, if_pos rfl, if_neg (by omega)]
      · rw [decide_eq_false h2, if_neg (by decide)]; by_cases h3 : b > (occurrence st gap l (i : Int) (slotAt st gap l a).2.1).2.1
        · rw [if_pos h3, if_neg (by omega)]
        · rw [if_neg h3, if_pos ⟨trivial, h1, by omega, by omega⟩]
    · rw [if_neg h1, if_neg (fun hx => h1 hx.2.1)]
theorem iInSlot (st gap : Int) (l : List Sl) (hl : l.length ≤ 1048576) (owner a b : Int) (k : Nat) (hk : 1050200 ≤ k) : impl_InSlot.f k st gap l owner a b = some (inSlot st gap l owner a b) := by
  obtain ⟨k, rfl⟩ : ∃ j, k = j + 1 := ⟨k - 1, by omega⟩; unfold impl_InSlot.f inSlot
  rw [iSlotAt st gap l hl a _ (by omega)]; simp only [Option.bind_some, impl_InSlot.j0]
  rw [iOccurrence st gap l hl _ _ _ (by omega)]; simp only [Option.bind_some, if_true]
  cases h : (slotAt st gap l a).2.2 with
  | false => simp
  | true =>
    obtain ⟨i, hi, e, _⟩ := slotAt_in h; rw [if_pos rfl, e, if_pos (by omega), if_pos (by omega), rdSl l i hi]; have e2 : ((i : Int)).toNat = i := by omega
    rw [e2, List.getElem?_eq_getElem hi]; simp only
    by_cases h1 : l[i].f0 = owner
    · rw [if_pos h1]; by_cases h2 : a > b
      · rw [decide_eq_true h2, if_pos rfl, if_neg (by omega)]
      · rw [decide_eq_false h2, if_neg (by decide)]; by_cases h3 : b > (occurrence st gap l (i : Int) (slotAt st gap l a).2.1).2.1
        · rw [if_pos h3, if_neg (by omega)]
        · rw [if_neg h3, if_pos ⟨trivial, h1, by omega, by omega⟩]
    · rw [if_neg h1, if_neg (fun hx => h1 hx.2.1)]
end Go.Proofs.Ytllpmpfchidhoaa.C
