/- Texts of the seat's proofs, part 7: functions of the program told as plain functions, with their contracts, and what is shown of them. No condition. -/
import Derived.Test.YtpjahhljpoeaeaaUKFS
import Derived.Test.YtpjahhljpoeaeaaKFS2
import Derived.Test.YtpjahhljpoeaeaaKFS1
import Derived.Test.YtpjahhljpoeaeaaKFS5
set_option linter.unusedVariables false
set_option linter.unusedSimpArgs false
namespace Go.Proofs.Ytpjahhljpoeaeaa.G
open Go.RowKit Go.Proofs.YtpjahhljpoeaeaaW.PrintWords
theorem wrap_id {x : Int} (h1 : -9223372036854775808 ≤ x) (h2 : x ≤ 9223372036854775807) : wrap64 x = x := by unfold wrap64; omega
theorem wrap_succ {i n : Nat} (h : i < n) (hn : n ≤ 9223372036854775807) : wrap64 ((i : Int) + 1) = ((i + 1 : Nat) : Int) := by unfold wrap64; omega
theorem wrap_pred {i n : Nat} (h0 : 0 < i) (h : i < n) (hn : n ≤ 9223372036854775807) : wrap64 ((i : Int) - 1) = ((i - 1 : Nat) : Int) := by unfold wrap64; omega
theorem all_loop {n : Nat} {L : Nat → Int → Option Bool} {Q : Nat → Bool} {e : Bool}
    (hs : ∀ k i, i < n → L (k + 1) (i : Int) = if Q i = true then L k ((i + 1 : Nat) : Int) else some false)
    (he : ∀ k, L (k + 1) (n : Int) = some e) :
    ∀ d i k, i + d = n → d < k → L k (i : Int) = some ((List.range' i d).all Q && e) := by
  intro d
  induction d with
  | zero =>
    intro i k h hk
    obtain ⟨k, rfl⟩ : ∃ m, k = m + 1 := ⟨k - 1, by omega⟩
    obtain rfl : i = n := by omega
    rw [he]; simp
  | succ d ih =>
    intro i k h hk
    obtain ⟨k, rfl⟩ : ∃ m, k = m + 1 := ⟨k - 1, by omega⟩
    rw [hs k i (by omega)]
    rw [List.range'_succ]
    cases hq : Q i with
    | true => rw [if_pos rfl, ih (i + 1) k (by omega) (by omega)]; simp [hq]
    | false => simp [hq]
theorem all_loop0 {n : Nat} {L : Nat → Int → Option Bool} {Q : Nat → Bool} {e : Bool}
    (hs : ∀ k i, i < n → L (k + 1) (i : Int) = if Q i = true then L k ((i + 1 : Nat) : Int) else some false)
    (he : ∀ k, L (k + 1) (n : Int) = some e) (k : Nat) (hk : n < k) : L k 0 = some ((List.range n).all Q && e) := by
  have := all_loop hs he n 0 k (by omega) hk
  rw [List.range_eq_range']
  exact this
def found {ρ : Type} (Q : Nat → Bool) (r : Nat → ρ) (e : ρ) (is : List Nat) : ρ := match is.find? Q with
  | some j => r j
  | none => e
theorem find_loop {n : Nat} {ρ : Type} {L : Nat → Int → Option ρ} {Q : Nat → Bool} {r : Nat → ρ} {e : ρ} {c : Nat}
    (hs : ∀ k i, i < n → c ≤ k → L (k + 1) (i : Int) = if Q i = true then some (r i) else L k ((i + 1 : Nat) : Int))
    (he : ∀ k, L (k + 1) (n : Int) = some e) :
    ∀ d i k, i + d = n → d + c < k → L k (i : Int) = some (found Q r e (List.range' i d)) := by
  intro d
  induction d with
  | zero =>
    intro i k h hk
    obtain ⟨k, rfl⟩ : ∃ m, k = m + 1 := ⟨k - 1, by omega⟩
    obtain rfl : i = n := by omega
    rw [he]; rfl
  | succ d ih =>
    intro i k h hk
    obtain ⟨k, rfl⟩ : ∃ m, k = m + 1 := ⟨k - 1, by omega⟩
    rw [hs k i (by omega) (by omega), List.range'_succ]
    unfold found
    cases hq : Q i with
    | true => simp [List.find?, hq]
    | false =>
      rw [if_neg (by simp), ih (i + 1) k (by omega) (by omega)]
      simp [List.find?, hq, found]
theorem find_loop0 {n : Nat} {ρ : Type} {L : Nat → Int → Option ρ} {Q : Nat → Bool} {r : Nat → ρ} {e : ρ} {c : Nat}
    (hs : ∀ k i, i < n → c ≤ k → L (k + 1) (i : Int) = if Q i = true then some (r i) else L k ((i + 1 : Nat) : Int))
    (he : ∀ k, L (k + 1) (n : Int) = some e) (k : Nat) (hk : n + c < k) : L k 0 = some (found Q r e (List.range n)) := by
  have := find_loop hs he n 0 k (by omega) hk
  rw [List.range_eq_range']
  exact this
theorem found_none {ρ : Type} {Q : Nat → Bool} {r : Nat → ρ} {e : ρ} {n : Nat} (h : ∀ i, i < n → Q i = false) : found Q r e (List.range n) = e := by
  unfold found
  have : (List.range n).find? Q = none := by
    rw [List.find?_eq_none]; intro i hi; rw [h i (List.mem_range.1 hi)]; simp
  rw [this]
theorem found_some {ρ : Type} {Q : Nat → Bool} {r : Nat → ρ} {e : ρ} {n j : Nat} (hj : j < n) (hq : Q j = true) (h : ∀ i, i < j → Q i = false) : found Q r e (List.range n) = r j := by
  unfold found
  have : (List.range n).find? Q = some j := by
    rw [List.find?_range_eq_some]; exact ⟨hq, List.mem_range.2 hj, fun i hi => by rw [h i hi]; rfl⟩
  rw [this]
theorem first_of {Q : Nat → Bool} : ∀ n, (∃ j, j < n ∧ Q j = true ∧ ∀ i, i < j → Q i = false) ∨ ∀ i, i < n → Q i = false := by
  intro n
  induction n with
  | zero => right; intro i hi; omega
  | succ n ih =>
    rcases ih with ⟨j, h1, h2, h3⟩ | h
    · left; exact ⟨j, by omega, h2, h3⟩
    · cases hq : Q n with
      | true => left; exact ⟨n, by omega, hq, h⟩
      | false => right; intro i hi; rcases Nat.lt_or_ge i n with c | c
                 · exact h i c
                 · obtain rfl : i = n := by omega
                   exact hq
theorem track_loop {n : Nat} {σ ρ : Type} {L : Nat → σ → Int → Option ρ} {F : Nat → σ} {r : ρ} {c : Nat}
    (hs : ∀ k i, i < n → c ≤ k → L (k + 1) (F i) (i : Int) = L k (F (i + 1)) ((i + 1 : Nat) : Int))
    (he : ∀ k, c ≤ k → L (k + 1) (F n) (n : Int) = some r) :
    ∀ d i k, i + d = n → d + c < k → L k (F i) (i : Int) = some r := by
  intro d
  induction d with
  | zero =>
    intro i k h hk
    obtain ⟨k, rfl⟩ : ∃ m, k = m + 1 := ⟨k - 1, by omega⟩
    obtain rfl : i = n := by omega
    exact he k (by omega)
  | succ d ih =>
    intro i k h hk
    obtain ⟨k, rfl⟩ : ∃ m, k = m + 1 := ⟨k - 1, by omega⟩
    rw [hs k i (by omega) (by omega)]
    exact ih (i + 1) k (by omega) (by omega)
theorem track_loop0 {n : Nat} {σ ρ : Type} {L : Nat → σ → Int → Option ρ} {F : Nat → σ} {r : ρ} {c : Nat}
    (hs : ∀ k i, i < n → c ≤ k → L (k + 1) (F i) (i : Int) = L k (F (i + 1)) ((i + 1 : Nat) : Int))
    (he : ∀ k, c ≤ k → L (k + 1) (F n) (n : Int) = some r) (k : Nat) (hk : n + c < k) : L k (F 0) 0 = some r :=
  track_loop hs he n 0 k (by omega) hk
theorem all_iff {n : Nat} {Q : Nat → Bool} : (List.range n).all Q = true ↔ ∀ i, i < n → Q i = true := by
  rw [List.all_eq_true]; exact ⟨fun h i hi => h i (List.mem_range.2 hi), fun h i hi => h i (List.mem_range.1 hi)⟩
end Go.Proofs.Ytpjahhljpoeaeaa.G
set_option linter.unusedVariables false
set_option linter.unusedSimpArgs false
namespace Go.Proofs.Ytpjahhljpoeaeaa.G
open Go.RowKit Go.Proofs.YtpjahhljpoeaeaaW.PrintWords
end Go.Proofs.Ytpjahhljpoeaeaa.G

namespace Go.Proofs.Ytpjahhljpoeaeaa.C
open Go.RowKit Go.Proofs.Ytpjahhljpoeaeaa.P Go.Proofs.Ytpjahhljpoeaeaa.G Go.Proofs.YtpjahhljpoeaeaaW.PrintWords
def Asc (l : List Int) : Prop := l.Pairwise (· ≤ ·)
def Ascs (l : List Int) : Prop := l.Pairwise (· < ·)
theorem rdm (A D : List Int) (a : Int) : rd (A ++ a :: D) (A.length : Int) = a := by unfold rd; simp [List.getD]
theorem rdm1 (A D : List Int) (a v : Int) : rd (A ++ a :: v :: D) ((A.length + 1 : Nat) : Int) = v := by
  have := rdm (A ++ [a]) D v
  simpa using this
theorem setm (A D : List Int) (a v : Int) : ((A ++ a :: v :: D).set (A.length + 1) a).set A.length v = A ++ v :: a :: D := by
  induction A with
  | nil => rfl
  | cons x A ih => simp only [List.cons_append, List.length_cons, List.set_cons_succ]; rw [ih]
theorem less_int (a b : Int) : cmp_Less_int.f a b = some (decide (a < b)) := by
  unfold cmp_Less_int.f cmp_isNaN_int.f
  simp
theorem ins_in (N : Nat) (hN : N ≤ 1000) : ∀ (n : Nat) (A B C : List Int) (v x6 : Int), A.length = n → (A ++ v :: (B ++ C)).length = N → Asc (A ++ B) → (∀ b ∈ B, v < b) → ∃ S : List Int, S.Perm (v :: (A ++ B)) ∧ Asc S ∧
    ∀ (k c : Nat) (r : Option (List Int)), n + c < k → (∀ k', c ≤ k' → slices_insertionSortOrdered_int.l0 k' (S ++ C) 0 (N : Int) (wrap64 (x6 + 1)) = r) → slices_insertionSortOrdered_int.l1 k (A ++ v :: (B ++ C)) 0 (N : Int) x6 (n : Int) = r := by
  intro n
  induction n with
  | zero =>
    intro A B C v x6 hA hl hs hv
    obtain rfl : A = [] := List.eq_nil_of_length_eq_zero hA
    refine ⟨v :: B, by simp, ?_, fun k c r hk h => ?_⟩
    · unfold Asc at hs ⊢
      rw [List.pairwise_cons]
      exact ⟨fun b hb => by have := hv b hb; omega, by simpa using hs⟩
    · obtain ⟨k, rfl⟩ : ∃ m, k = m + 1 := ⟨k - 1, by omega⟩
      simp only [slices_insertionSortOrdered_int.l1]
      rw [if_neg (by omega)]
      exact h k (by omega)
  | succ n ih =>
    intro A B C v x6 hA hl hs hv
    obtain ⟨A', a, rfl⟩ : ∃ A' a, A = A' ++ [a] := by
      rcases List.eq_nil_or_concat A with h | ⟨A', a, h⟩
      · rw [h] at hA; simp at hA
      · exact ⟨A', a, by rw [h]; simp⟩
    have hA' : A'.length = n := by simpa using hA
    have hlen : A'.length + (B ++ C).length + 2 = N := by rw [← hl]; simp; omega
    have e0 : (A' ++ [a]) ++ v :: (B ++ C) = A' ++ a :: v :: (B ++ C) := by simp
    by_cases hav : v < a
    · obtain ⟨S, s1, s2, s3⟩ := ih A' (a :: B) C v x6 hA' (by simp at hlen ⊢; omega) (by simpa using hs) (fun b hb => by
        rcases List.mem_cons.1 hb with rfl | hb
        · exact hav
        · exact hv b hb)
      refine ⟨S, by simpa using s1, s2, fun k c r hk h => ?_⟩
      obtain ⟨k, rfl⟩ : ∃ m, k = m + 1 := ⟨k - 1, by omega⟩
      simp only [slices_insertionSortOrdered_int.l1]
      have w1 : wrap64 (((n + 1 : Nat) : Int) - 1) = (n : Int) := by rw [wrap_id (by omega) (by omega)]; omega
      have l1 : (A' ++ a :: v :: (B ++ C)).length = N := by simp at hlen ⊢; omega
      rw [e0, w1, if_pos (by omega), if_pos (by omega), if_pos (by omega), if_pos (by omega), if_pos (by omega)]
      rw [← hA', rdm1, rdm, less_int, Option.bind_some, decide_eq_true hav, if_pos rfl, Int.toNat_natCast, Int.toNat_natCast, setm]
      have := s3 k c r (by omega) h
      rw [← hA'] at this
      simpa using this
    · refine ⟨A' ++ a :: v :: B, ?_, ?_, fun k c r hk h => ?_⟩
      · have : (A' ++ a :: v :: B) = (A' ++ [a]) ++ (v :: B) := by simp
        rw [this]
        exact List.perm_middle
      · unfold Asc at hs ⊢
        have h1 : (A' ++ a :: B).Pairwise (· ≤ ·) := by simpa using hs
        rw [List.pairwise_append] at h1 ⊢
        obtain ⟨p1, p2, p3⟩ := h1
        rw [List.pairwise_cons] at p2
        refine ⟨p1, ?_, ?_⟩
        · rw [List.pairwise_cons, List.pairwise_cons]
          exact ⟨fun b hb => by
            rcases List.mem_cons.1 hb with rfl | hb
            · omega
            · exact p2.1 b hb, fun b hb => by have := hv b hb; omega, p2.2⟩
        · intro x hx b hb
          rcases List.mem_cons.1 hb with rfl | hb
          · exact p3 x hx b (by simp)
          · rcases List.mem_cons.1 hb with rfl | hb
            · have := p3 x hx a (by simp); omega
            · exact p3 x hx b (by simp [hb])
      · obtain ⟨k, rfl⟩ : ∃ m, k = m + 1 := ⟨k - 1, by omega⟩
        simp only [slices_insertionSortOrdered_int.l1]
        have w1 : wrap64 (((n + 1 : Nat) : Int) - 1) = (n : Int) := by rw [wrap_id (by omega) (by omega)]; omega
        have l1 : (A' ++ a :: v :: (B ++ C)).length = N := by simp at hlen ⊢; omega
        rw [e0, w1, if_pos (by omega), if_pos (by omega), if_pos (by omega), if_pos (by omega), if_pos (by omega)]
        rw [← hA', rdm1, rdm, less_int, Option.bind_some, decide_eq_false hav, if_neg (by decide)]
        have := h k (by omega)
        simpa using this
theorem ins_out (N : Nat) (hN : N ≤ 1000) : ∀ (d : Nat) (S C : List Int), C.length = d → S.length + d = N → S ≠ [] → Asc S → ∃ r : List Int, r.Perm (S ++ C) ∧ Asc r ∧ ∀ k, (N + 2) * (d + 1) < k → slices_insertionSortOrdered_int.l0 k (S ++ C) 0 (N : Int) (S.length : Int) = some r := by
  intro d
  induction d with
  | zero =>
    intro S C hC hl hne hs
    obtain rfl : C = [] := List.eq_nil_of_length_eq_zero hC
    refine ⟨S, by simp, hs, fun k hk => ?_⟩
    obtain ⟨k, rfl⟩ : ∃ m, k = m + 1 := ⟨k - 1, by omega⟩
    simp only [slices_insertionSortOrdered_int.l0]
    rw [if_neg (by omega), List.append_nil]
  | succ d ih =>
    intro S C hC hl hne hs
    obtain ⟨v, C, rfl⟩ : ∃ v C', C = v :: C' := by cases C with | nil => simp at hC | cons v C => exact ⟨v, C, rfl⟩
    have hC' : C.length = d := by simpa using hC
    obtain ⟨T, t1, t2, t3⟩ := ins_in N hN S.length S [] C v (S.length : Int) rfl (by simp; omega) (by simpa using hs) (by simp)
    have tl : T.length = S.length + 1 := by have := t1.length_eq; simpa using this
    obtain ⟨r, r1, r2, r3⟩ := ih T C hC' (by omega) (by intro h; rw [h] at tl; simp at tl) t2
    refine ⟨r, r1.trans ?_, r2, fun k hk => ?_⟩
    · refine (List.Perm.append_right C t1).trans ?_
      simpa using List.perm_middle.symm
    · obtain ⟨k, rfl⟩ : ∃ m, k = m + 1 := ⟨k - 1, by omega⟩
      simp only [slices_insertionSortOrdered_int.l0]
      have e1 : (N + 2) * (d + 1 + 1) = (N + 2) * (d + 1) + (N + 2) := by rw [Nat.mul_succ]
      rw [if_pos (by omega)]
      have := t3 k ((N + 2) * (d + 1) + 1) (some r) (by omega) (fun k' hk' => ?_)
      · simpa using this
      · rw [show wrap64 ((S.length : Int) + 1) = (T.length : Int) by rw [wrap_id (by omega) (by omega)]; omega]
        exact r3 k' (by omega)
theorem sort_short (l : List Int) (hl : l.length ≤ 12) (k : Nat) (hk : 1000 ≤ k) : ∃ r : List Int, slices_Sort_int.f k l = some r ∧ r.Perm l ∧ Asc r := by
  have hw : IntKind.u64.wrap (l.length : Int) = (l.length : Int) := by unfold IntKind.wrap; simp [IntKind.bits]; omega
  have hlen : ∃ t, bits_Len.f (l.length : Int) = some t := by
    unfold bits_Len.f; rw [if_pos (by omega), if_pos (by omega)]; exact ⟨_, rfl⟩
  obtain ⟨t, ht⟩ := hlen
  obtain ⟨k, rfl⟩ : ∃ m, k = m + 2 := ⟨k - 2, by omega⟩
  have hw2 : wrap64 ((l.length : Int) - 0) = (l.length : Int) := by rw [Int.sub_zero, wrap_id (by omega) (by omega)]
  have hw3 : wrap64 ((0 : Int) + 1) = 1 := by rw [wrap_id (by omega) (by omega)]; rfl
  have key : ∃ r : List Int, slices_insertionSortOrdered_int.f k l 0 (l.length : Int) = some r ∧ r.Perm l ∧ Asc r := by
    unfold slices_insertionSortOrdered_int.f
    rw [hw3]
    cases l with
    | nil =>
      obtain ⟨k, rfl⟩ : ∃ m, k = m + 1 := ⟨k - 1, by omega⟩
      refine ⟨[], ?_, List.Perm.refl _, List.Pairwise.nil⟩
      simp [slices_insertionSortOrdered_int.l0]
    | cons v C =>
      obtain ⟨r, r1, r2, r3⟩ := ins_out (v :: C).length (by omega) C.length [v] C rfl (by simp; omega) (by simp) (by unfold Asc; simp)
      refine ⟨r, ?_, by simpa using r1, r2⟩
      refine r3 k ?_
      have : (C.length + 1 + 2) * (C.length + 1) ≤ 15 * 13 := Nat.mul_le_mul (by simp at hl; omega) (by simp at hl; omega)
      simp only [List.length_cons]; omega
  obtain ⟨r, h1, h2, h3⟩ := key
  refine ⟨r, ?_, h2, h3⟩
  unfold slices_Sort_int.f
  rw [hw, ht, Option.bind_some]
  simp only [slices_pdqsortOrdered_int.f, slices_pdqsortOrdered_int.l0]
  rw [hw2, if_pos (by omega), h1]
  rfl
theorem compact_asc {l : List Int} (h : Asc l) : Ascs (Go.Lib.compact l) ∧ ∀ x, x ∈ Go.Lib.compact l ↔ x ∈ l := by
  have get : ∀ i (hi : i < l.length), l.toArray[i]! = l[i] := fun i hi => by simp [getElem!_pos, hi]
  have le : ∀ i j (hj : j < l.length) (hij : i ≤ j), l[i]'(by omega) ≤ l[j] := by
    intro i j hj hij
    rcases Nat.lt_or_ge i j with c | c
    · exact List.pairwise_iff_getElem.1 h i j (by omega) hj c
    · obtain rfl : i = j := by omega
      exact Int.le_refl _
  unfold Go.Lib.compact Go.Lib.compactUpTo
  constructor
  · unfold Ascs
    rw [List.pairwise_map]
    have hp : ((List.range l.length).filter (Go.Lib.keeps l.toArray)).Pairwise (· < ·) := List.Pairwise.filter _ List.pairwise_lt_range
    refine List.Pairwise.imp_of_mem (fun {i j} hi hj hij => ?_) hp
    rw [List.mem_filter, List.mem_range] at hi hj
    have hk := hj.2
    unfold Go.Lib.keeps at hk
    rw [decide_eq_true_iff] at hk
    rw [get i hi.1, get j hj.1]
    rcases hk with hk | hk
    · omega
    · rw [get j hj.1, get (j - 1) (by omega)] at hk
      have h1 := le i (j - 1) (by omega) (by omega)
      have h2 := le (j - 1) j hj.1 (by omega)
      omega
  · intro x
    constructor
    · intro hx
      obtain ⟨i, hi, rfl⟩ := List.mem_map.1 hx
      rw [List.mem_filter, List.mem_range] at hi
      rw [get i hi.1]
      exact List.getElem_mem hi.1
    · intro hx
      obtain ⟨j, hj, rfl⟩ := List.getElem_of_mem hx
      have key : ∀ n j (hj : j < l.length), j ≤ n → ∃ i, ∃ hi : i < l.length, Go.Lib.keeps l.toArray i = true ∧ l[i] = l[j] := by
        intro n
        induction n with
        | zero => intro j hj hn; refine ⟨j, hj, ?_, rfl⟩; unfold Go.Lib.keeps; rw [decide_eq_true_iff]; left; omega
        | succ n ih =>
          intro j hj hn
          cases hk : Go.Lib.keeps l.toArray j with
          | true => exact ⟨j, hj, hk, rfl⟩
          | false =>
            unfold Go.Lib.keeps at hk
            rw [decide_eq_false_iff_not] at hk
            have h0 : j ≠ 0 := fun e => hk (.inl e)
            have h1 : l.toArray[j]! = l.toArray[j - 1]! := by
              rcases Classical.em (l.toArray[j]! = l.toArray[j - 1]!) with c | c
              · exact c
              · exact absurd (.inr c) hk
            rw [get j hj, get (j - 1) (by omega)] at h1
            obtain ⟨i, hi, e1, e2⟩ := ih (j - 1) (by omega) (by omega)
            exact ⟨i, hi, e1, by rw [e2, h1]⟩
      obtain ⟨i, hi, e1, e2⟩ := key j j hj (Nat.le_refl _)
      exact List.mem_map.2 ⟨i, List.mem_filter.2 ⟨List.mem_range.2 hi, e1⟩, by rw [get i hi, e2]⟩
theorem ascs_eq : ∀ {a b : List Int}, Ascs a → Ascs b → (∀ x, x ∈ a ↔ x ∈ b) → a = b := by
  intro a
  induction a with
  | nil =>
    intro b _ _ h
    cases b with
    | nil => rfl
    | cons y b => have := (h y).2 (by simp); simp at this
  | cons x a ih =>
    intro b ha hb h
    cases b with
    | nil => have := (h x).1 (by simp); simp at this
    | cons y b =>
      unfold Ascs at ha hb
      rw [List.pairwise_cons] at ha hb
      have exy : x = y := by
        rcases List.mem_cons.1 ((h x).1 (by simp)) with e | e
        · exact e
        · rcases List.mem_cons.1 ((h y).2 (by simp)) with e2 | e2
          · exact e2.symm
          · have := hb.1 x e; have := ha.1 y e2; omega
      subst exy
      congr 1
      refine ih ha.2 hb.2 (fun z => ?_)
      constructor
      · intro hz
        rcases List.mem_cons.1 ((h z).1 (by simp [hz])) with e | e
        · have := ha.1 z hz; omega
        · exact e
      · intro hz
        rcases List.mem_cons.1 ((h z).2 (by simp [hz])) with e | e
        · have := hb.1 z hz; omega
        · exact e
def below8 (p : Int → Bool) : List Int := ((List.range 8).map fun (n : Nat) => (n : Int)).filter p
theorem below8_ascs (p : Int → Bool) : Ascs (below8 p) := by
  unfold below8 Ascs
  refine List.Pairwise.filter _ ?_
  rw [List.pairwise_map]
  refine List.Pairwise.imp (fun {a b} h => ?_) List.pairwise_lt_range
  omega
theorem mem_below8 (p : Int → Bool) (x : Int) : x ∈ below8 p ↔ (0 ≤ x ∧ x < 8) ∧ p x = true := by
  unfold below8
  rw [List.mem_filter, List.mem_map]
  constructor
  · rintro ⟨⟨n, hn, rfl⟩, h⟩
    rw [List.mem_range] at hn
    exact ⟨by omega, h⟩
  · rintro ⟨h1, h2⟩
    exact ⟨⟨x.toNat, List.mem_range.2 (by omega), by omega⟩, h2⟩
theorem sort_compact (l : List Int) (hl : l.length ≤ 12) (hb : ∀ x ∈ l, 0 ≤ x ∧ x < 8) (k : Nat) (hk : 1000 ≤ k) : ((slices_Sort_int.f k l).bind fun t => (slices_Compact_int.f t).bind fun u => some u) = some (below8 fun n => decide (n ∈ l)) := by
  obtain ⟨r, h1, h2, h3⟩ := sort_short l hl k hk
  rw [h1, Option.bind_some]
  unfold slices_Compact_int.f
  rw [Option.bind_some]
  have hc := compact_asc h3
  congr 1
  refine ascs_eq hc.1 (below8_ascs _) (fun x => ?_)
  rw [hc.2, mem_below8, h2.mem_iff, decide_eq_true_iff]
  exact ⟨fun h => ⟨hb x h, h⟩, fun h => h.2⟩
theorem below8_len (p : Int → Bool) : (below8 p).length ≤ 8 := by
  unfold below8; exact Nat.le_trans (List.length_filter_le _ _) (by simp)
end Go.Proofs.Ytpjahhljpoeaeaa.C
namespace Go.Proofs.Ytpjahhljpoeaeaa.C
open Go.RowKit Go.Proofs.Ytpjahhljpoeaeaa.P Go.Proofs.Ytpjahhljpoeaeaa.G
theorem l1In (a b c : Int) : spec_l1In.f a b c = some (decide (b ≤ a ∧ a ≤ c)) := by
  unfold spec_l1In.f; by_cases h : a ≥ b <;> simp [h] <;> omega
theorem in_ (a b c : Int) : impl_in.f a b c = some (decide (b ≤ a ∧ a ≤ c)) := by
  unfold impl_in.f; by_cases h : b ≤ a <;> simp [h]
theorem l2Time (a : Int) : spec_l2Time.f a = some (decide (0 ≤ a ∧ a ≤ 1000000000000)) := by
  unfold spec_l2Time.f; rw [l1In]; rfl
theorem isTime (a : Int) : impl_isTime.f a = some (decide (0 ≤ a ∧ a ≤ 1000000000000)) := by
  unfold impl_isTime.f; rw [in_]; rfl
theorem l4Node (a : Int) : spec_l4Node.f a = some (decide (0 ≤ a ∧ a ≤ 7)) := by
  unfold spec_l4Node.f; rw [l1In]; rfl
theorem isNode (a : Int) : impl_isNode.f a = some (decide (0 ≤ a ∧ a ≤ 7)) := by
  unfold impl_isNode.f; rw [in_]; rfl
end Go.Proofs.Ytpjahhljpoeaeaa.C
namespace Go.Proofs.Ytpjahhljpoeaeaa.P
open Go.RowKit Go.Proofs.YtpjahhljpoeaeaaW.PrintWords Go.Proofs.YtpjahhljpoeaeaaW.PrintLast Go.Proofs.YtpjahhljpoeaeaaW.PrintMore
attribute [local go_sem] max2_int min2_int max_two min_two max_three min_three max_four min_four
set_option linter.unusedVariables false
set_option linter.unusedSimpArgs false
end Go.Proofs.Ytpjahhljpoeaeaa.P

namespace Go.Proofs.Ytpjahhljpoeaeaa.P
open Go.RowKit Go.Proofs.YtpjahhljpoeaeaaW.PrintWords Go.Proofs.YtpjahhljpoeaeaaW.PrintLast Go.Proofs.YtpjahhljpoeaeaaW.PrintMore
attribute [local go_sem] max2_int min2_int max_two min_two max_three min_three max_four min_four
set_option linter.unusedVariables false
set_option linter.unusedSimpArgs false
end Go.Proofs.Ytpjahhljpoeaeaa.P

namespace Go.Proofs.Ytpjahhljpoeaeaa.P
open Go.RowKit Go.Proofs.YtpjahhljpoeaeaaW.PrintWords Go.Proofs.YtpjahhljpoeaeaaW.PrintLast Go.Proofs.YtpjahhljpoeaeaaW.PrintMore
attribute [local go_sem] max2_int min2_int max_two min_two max_three min_three max_four min_four
set_option linter.unusedVariables false
set_option linter.unusedSimpArgs false
end Go.Proofs.Ytpjahhljpoeaeaa.P

namespace Go.Proofs.Ytpjahhljpoeaeaa.P
open Go.RowKit Go.Proofs.YtpjahhljpoeaeaaW.PrintWords Go.Proofs.YtpjahhljpoeaeaaW.PrintLast Go.Proofs.YtpjahhljpoeaeaaW.PrintMore
attribute [local go_sem] max2_int min2_int max_two min_two max_three min_three max_four min_four
set_option linter.unusedVariables false
set_option linter.unusedSimpArgs false
end Go.Proofs.Ytpjahhljpoeaeaa.P

namespace Go.Proofs.Ytpjahhljpoeaeaa.P
open Go.RowKit Go.Proofs.YtpjahhljpoeaeaaW.PrintWords Go.Proofs.YtpjahhljpoeaeaaW.PrintLast Go.Proofs.YtpjahhljpoeaeaaW.PrintMore
attribute [local go_sem] max2_int min2_int max_two min_two max_three min_three max_four min_four
set_option linter.unusedVariables false
set_option linter.unusedSimpArgs false
end Go.Proofs.Ytpjahhljpoeaeaa.P

namespace Go.Proofs.Ytpjahhljpoeaeaa.P
open Go.RowKit Go.Proofs.YtpjahhljpoeaeaaW.PrintWords Go.Proofs.YtpjahhljpoeaeaaW.PrintLast Go.Proofs.YtpjahhljpoeaeaaW.PrintMore
attribute [local go_sem] max2_int min2_int max_two min_two max_three min_three max_four min_four
set_option linter.unusedVariables false
set_option linter.unusedSimpArgs false
end Go.Proofs.Ytpjahhljpoeaeaa.P

namespace Go.Proofs.Ytpjahhljpoeaeaa.P
open Go.RowKit Go.Proofs.YtpjahhljpoeaeaaW.PrintWords Go.Proofs.YtpjahhljpoeaeaaW.PrintLast Go.Proofs.YtpjahhljpoeaeaaW.PrintMore
attribute [local go_sem] max2_int min2_int max_two min_two max_three min_three max_four min_four
set_option linter.unusedVariables false
set_option linter.unusedSimpArgs false
end Go.Proofs.Ytpjahhljpoeaeaa.P

namespace Go.Proofs.Ytpjahhljpoeaeaa.P
open Go.RowKit Go.Proofs.YtpjahhljpoeaeaaW.PrintWords Go.Proofs.YtpjahhljpoeaeaaW.PrintLast Go.Proofs.YtpjahhljpoeaeaaW.PrintMore
attribute [local go_sem] max2_int min2_int max_two min_two max_three min_three max_four min_four
set_option linter.unusedVariables false
set_option linter.unusedSimpArgs false
end Go.Proofs.Ytpjahhljpoeaeaa.P

namespace Go.Proofs.Ytpjahhljpoeaeaa.C
open Go.RowKit Go.Proofs.Ytpjahhljpoeaeaa.P Go.Proofs.Ytpjahhljpoeaeaa.G
abbrev Sl := S79
theorem rdSl (l : List Sl) (i : Nat) (h : i < l.length) : rd_T79 l (i : Int) = l[i] := by
  unfold rd_T79; simp [List.getD, h]
def slotOk (x : Sl) : Bool := decide (0 ≤ x.f0 ∧ x.f0 ≤ 7) && decide (1 ≤ x.f1 ∧ x.f1 ≤ 1000000)
def slotsOk (l : List Sl) : Bool := (List.range l.length).all fun i => match l[i]? with | some x => slotOk x | none => true
def planOk (st gap : Int) (l : List Sl) : Bool := decide (0 ≤ st ∧ st ≤ 1000000000000) && decide (0 ≤ gap ∧ gap ≤ 100000) && decide ((1 : Int) ≤ l.length ∧ (l.length : Int) ≤ 12) && slotsOk l
theorem slotsOk_get {l : List Sl} (h : slotsOk l = true) (i : Nat) (hi : i < l.length) : 0 ≤ l[i].f0 ∧ l[i].f0 ≤ 7 ∧ 1 ≤ l[i].f1 ∧ l[i].f1 ≤ 1000000 := by
  unfold slotsOk at h; rw [all_iff] at h
  have := h i hi
  rw [List.getElem?_eq_getElem hi] at this
  simp [slotOk] at this; omega
theorem planOk_iff (st gap : Int) (l : List Sl) : planOk st gap l = true ↔ (0 ≤ st ∧ st ≤ 1000000000000) ∧ (0 ≤ gap ∧ gap ≤ 100000) ∧ (1 ≤ l.length ∧ l.length ≤ 12) ∧ slotsOk l = true := by
  unfold planOk; simp only [Bool.and_eq_true, decide_eq_true_eq]; constructor
  · rintro ⟨⟨⟨h1, h2⟩, h3⟩, h4⟩; exact ⟨h1, h2, by omega, h4⟩
  · rintro ⟨h1, h2, h3, h4⟩; exact ⟨⟨⟨h1, h2⟩, by omega⟩, h4⟩
theorem iIndexSlot (l : List Sl) (hl : l.length ≤ 1048576) (k : Nat) (hk : l.length < k) : ∃ r, slices_IndexFunc_Slot.f k l = some r ∧ decide (r ≥ 0) = !slotsOk l := by
  have h1 : ∀ x : Sl, impl_PlanOk_1.f x.f0 x.f1 = some (!slotOk x) := by
    intro x; unfold impl_PlanOk_1.f slotOk; simp only [isNode, in_, Option.bind_some]
    cases decide (0 ≤ x.f0 ∧ x.f0 ≤ 7) <;> simp
  unfold slices_IndexFunc_Slot.f
  have := find_loop0 (n := l.length) (L := fun k i => slices_IndexFunc_Slot.l0 k l (l.length : Int) i) (Q := fun i => match l[i]? with | some x => !slotOk x | none => false) (r := fun i => (i : Int)) (e := -1) (c := 0) (fun k i hi _ => ?_) (fun k => ?_) k (by omega)
  · refine ⟨_, this, ?_⟩
    rcases first_of (Q := fun i => match l[i]? with | some x => !slotOk x | none => false) l.length with ⟨j, h2, h3, h4⟩ | h2
    · rw [found_some h2 h3 h4]
      have : slotsOk l = false := by
        cases hs : slotsOk l with
        | false => rfl
        | true =>
          unfold slotsOk at hs; rw [all_iff] at hs
          have := hs j h2
          rw [List.getElem?_eq_getElem h2] at this h3
          simp at this h3; rw [this] at h3; cases h3
      rw [this]; simp
    · rw [found_none h2]
      have : slotsOk l = true := by
        unfold slotsOk; rw [all_iff]; intro i hi
        have := h2 i hi
        rw [List.getElem?_eq_getElem hi] at this ⊢
        simpa using this
      rw [this]; simp
  · simp only [slices_IndexFunc_Slot.l0]
    rw [if_pos (by omega), if_pos (by omega), if_pos (by omega), wrap_succ hi (by omega), rdSl l i hi, h1, List.getElem?_eq_getElem hi]
    rfl
  · simp only [slices_IndexFunc_Slot.l0]
    rw [if_neg (by omega)]
theorem iPlanOk (st gap : Int) (l : List Sl) (hl : l.length ≤ 1048576) (k : Nat) (hk : l.length < k) : impl_PlanOk.f k st gap l = some (planOk st gap l) := by
  obtain ⟨r, h1, h2⟩ := iIndexSlot l hl k hk
  unfold impl_PlanOk.f planOk slices_ContainsFunc_Slot.f; simp only [isTime, in_, h1, h2, Option.bind_some]
  cases decide (0 ≤ st ∧ st ≤ 1000000000000) <;> cases decide (0 ≤ gap ∧ gap ≤ 100000) <;> cases decide ((1 : Int) ≤ l.length ∧ (l.length : Int) ≤ 12) <;> simp
theorem sPlanOk (st gap : Int) (l : List Sl) (hl : l.length ≤ 1048576) (k : Nat) (hk : l.length + 1 < k) : spec_PlanOk.f k st gap l = some (planOk st gap l) := by
  obtain ⟨k, rfl⟩ : ∃ j, k = j + 1 := ⟨k - 1, by omega⟩
  have hL : spec_PlanOk.l0 k 0 st gap l = some (slotsOk l) := by
    unfold slotsOk
    have := all_loop0 (n := l.length) (L := fun k i => spec_PlanOk.l0 k i st gap l) (Q := fun i => match l[i]? with | some x => slotOk x | none => true) (e := true) (fun k i hi => ?_) (fun k => ?_) k (by omega)
    · simpa using this
    · simp only [spec_PlanOk.l0, l4Node, l1In, Option.bind_some]
      rw [if_pos (by omega), if_pos (by omega), wrap_succ hi (by omega), rdSl l i hi, List.getElem?_eq_getElem hi]
      simp only [slotOk]
      by_cases h1 : (0 ≤ l[i].f0 ∧ l[i].f0 ≤ 7) <;> by_cases h2 : (1 ≤ l[i].f1 ∧ l[i].f1 ≤ 1000000) <;> simp [h1, h2]
    · simp only [spec_PlanOk.l0]
      rw [if_neg (by omega)]
  unfold spec_PlanOk.f planOk; simp only [l2Time, l1In, Option.bind_some, spec_PlanOk.j0, hL]
  cases decide (0 ≤ st ∧ st ≤ 1000000000000) <;> cases decide (0 ≤ gap ∧ gap ≤ 100000) <;> cases decide ((1 : Int) ≤ l.length ∧ (l.length : Int) ≤ 12) <;> simp
end Go.Proofs.Ytpjahhljpoeaeaa.C
namespace Go.Proofs.Ytpjahhljpoeaeaa.P
open Go.RowKit Go.Proofs.YtpjahhljpoeaeaaW.PrintWords Go.Proofs.YtpjahhljpoeaeaaW.PrintLast Go.Proofs.YtpjahhljpoeaeaaW.PrintMore
attribute [local go_sem] max2_int min2_int max_two min_two max_three min_three max_four min_four
set_option linter.unusedVariables false
set_option linter.unusedSimpArgs false
end Go.Proofs.Ytpjahhljpoeaeaa.P

namespace Go.Proofs.Ytpjahhljpoeaeaa.P
open Go.RowKit Go.Proofs.YtpjahhljpoeaeaaW.PrintWords Go.Proofs.YtpjahhljpoeaeaaW.PrintLast Go.Proofs.YtpjahhljpoeaeaaW.PrintMore
attribute [local go_sem] max2_int min2_int max_two min_two max_three min_three max_four min_four
set_option linter.unusedVariables false
set_option linter.unusedSimpArgs false
end Go.Proofs.Ytpjahhljpoeaeaa.P

namespace Go.Proofs.Ytpjahhljpoeaeaa.P
open Go.RowKit Go.Proofs.YtpjahhljpoeaeaaW.PrintWords Go.Proofs.YtpjahhljpoeaeaaW.PrintLast Go.Proofs.YtpjahhljpoeaeaaW.PrintMore
attribute [local go_sem] max2_int min2_int max_two min_two max_three min_three max_four min_four
set_option linter.unusedVariables false
set_option linter.unusedSimpArgs false
end Go.Proofs.Ytpjahhljpoeaeaa.P

set_option linter.unusedVariables false
set_option linter.unusedSimpArgs false
namespace Go.Proofs.Ytpjahhljpoeaeaa.C
open Go.RowKit Go.Proofs.Ytpjahhljpoeaeaa.P Go.Proofs.Ytpjahhljpoeaeaa.G Go.Proofs.YtpjahhljpoeaeaaW.PrintWords
end Go.Proofs.Ytpjahhljpoeaeaa.C

namespace Go.Proofs.Ytpjahhljpoeaeaa.P
open Go.RowKit Go.Proofs.YtpjahhljpoeaeaaW.PrintWords Go.Proofs.YtpjahhljpoeaeaaW.PrintLast Go.Proofs.YtpjahhljpoeaeaaW.PrintMore
attribute [local go_sem] max2_int min2_int max_two min_two max_three min_three max_four min_four
set_option linter.unusedVariables false
set_option linter.unusedSimpArgs false
end Go.Proofs.Ytpjahhljpoeaeaa.P

namespace Go.Proofs.Ytpjahhljpoeaeaa.P
open Go.RowKit Go.Proofs.YtpjahhljpoeaeaaW.PrintWords Go.Proofs.YtpjahhljpoeaeaaW.PrintLast Go.Proofs.YtpjahhljpoeaeaaW.PrintMore
attribute [local go_sem] max2_int min2_int max_two min_two max_three min_three max_four min_four
set_option linter.unusedVariables false
set_option linter.unusedSimpArgs false
end Go.Proofs.Ytpjahhljpoeaeaa.P

namespace Go.Proofs.Ytpjahhljpoeaeaa.P
open Go.RowKit Go.Proofs.YtpjahhljpoeaeaaW.PrintWords Go.Proofs.YtpjahhljpoeaeaaW.PrintLast Go.Proofs.YtpjahhljpoeaeaaW.PrintMore
attribute [local go_sem] max2_int min2_int max_two min_two max_three min_three max_four min_four
set_option linter.unusedVariables false
set_option linter.unusedSimpArgs false
end Go.Proofs.Ytpjahhljpoeaeaa.P

namespace Go.Proofs.Ytpjahhljpoeaeaa.P
open Go.RowKit Go.Proofs.YtpjahhljpoeaeaaW.PrintWords Go.Proofs.YtpjahhljpoeaeaaW.PrintLast Go.Proofs.YtpjahhljpoeaeaaW.PrintMore
attribute [local go_sem] max2_int min2_int max_two min_two max_three min_three max_four min_four
set_option linter.unusedVariables false
set_option linter.unusedSimpArgs false
end Go.Proofs.Ytpjahhljpoeaeaa.P

