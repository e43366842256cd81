/- Laws of loops over numbers and lists, for whatever loop: plain Lean. -/
import Derived.Test.YtihpclkpodbndaaWWords
set_option linter.unusedVariables false
namespace Go.Proofs.Ytihpclkpodbndaa.G
open Go.RowKit Go.Proofs.YtihpclkpodbndaaW.PrintWords

theorem wrap_id {x : Int} (h1 : -9223372036854775808 ≤ x) (h2 : x ≤ 9223372036854775807) : wrap64 x = x := by unfold wrap64; omega
theorem wrap_succ {i n : Nat} (h : i < n) (hn : n ≤ 9223372036854775807) : wrap64 ((i : Int) + 1) = ((i + 1 : Nat) : Int) := by unfold wrap64; omega
theorem wrap_pred {i n : Nat} (h0 : 0 < i) (h : i < n) (hn : n ≤ 9223372036854775807) : wrap64 ((i : Int) - 1) = ((i - 1 : Nat) : Int) := by unfold wrap64; omega

/-- A loop that asks each place, up to the first that says no. -/
theorem all_loop {n : Nat} {L : Nat → Int → Option Bool} {Q : Nat → Bool} {e : Bool}
    (hs : ∀ k i, i < n → L (k + 1) (i : Int) = if Q i = true then L k ((i + 1 : Nat) : Int) else some false)
    (he : ∀ k, L (k + 1) (n : Int) = some e) :
    ∀ d i k, i + d = n → d < k → L k (i : Int) = some ((List.range' i d).all Q && e) := by
  intro d
  induction d with
  | zero =>
    intro i k h hk
    obtain ⟨k, rfl⟩ : ∃ m, k = m + 1 := ⟨k - 1, by omega⟩
    obtain rfl : i = n := by omega
    rw [he]; simp
  | succ d ih =>
    intro i k h hk
    obtain ⟨k, rfl⟩ : ∃ m, k = m + 1 := ⟨k - 1, by omega⟩
    rw [hs k i (by omega)]
    rw [List.range'_succ]
    cases hq : Q i with
    | true => rw [if_pos rfl, ih (i + 1) k (by omega) (by omega)]; simp [hq]
    | false => simp [hq]
theorem all_loop0 {n : Nat} {L : Nat → Int → Option Bool} {Q : Nat → Bool} {e : Bool}
    (hs : ∀ k i, i < n → L (k + 1) (i : Int) = if Q i = true then L k ((i + 1 : Nat) : Int) else some false)
    (he : ∀ k, L (k + 1) (n : Int) = some e) (k : Nat) (hk : n < k) : L k 0 = some ((List.range n).all Q && e) := by
  have := all_loop hs he n 0 k (by omega) hk
  rw [List.range_eq_range']
  exact this

theorem all_loopT {n : Nat} {L : Nat → Int → Option Bool}
    (hs : ∀ k i, i < n → L (k + 1) (i : Int) = L k ((i + 1 : Nat) : Int)) (he : ∀ k, L (k + 1) (n : Int) = some true) (k : Nat) (hk : n < k) : L k 0 = some true := by
  have := all_loop0 (Q := fun _ => true) (e := true) (fun k i hi => by rw [if_pos rfl]; exact hs k i hi) he k hk
  rw [this]
  simp [List.all_eq_true]

/-- A loop that goes over all places, with a state. -/
theorem fold_loop {n : Nat} {σ ρ : Type} {L : Nat → σ → Int → Option ρ} {st : Nat → σ → σ} {fin : σ → ρ} {I : Nat → σ → Prop}
    (hs : ∀ k i s, i < n → I i s → L (k + 1) s (i : Int) = L k (st i s) ((i + 1 : Nat) : Int))
    (hI : ∀ i s, i < n → I i s → I (i + 1) (st i s))
    (he : ∀ k s, I n s → L (k + 1) s (n : Int) = some (fin s)) :
    ∀ d i s k, i + d = n → I i s → d < k → L k s (i : Int) = some (fin ((List.range' i d).foldl (fun s i => st i s) s)) := by
  intro d
  induction d with
  | zero =>
    intro i s k h hi hk
    obtain ⟨k, rfl⟩ : ∃ m, k = m + 1 := ⟨k - 1, by omega⟩
    obtain rfl : i = n := by omega
    rw [he k s hi]; simp
  | succ d ih =>
    intro i s k h hi hk
    obtain ⟨k, rfl⟩ : ∃ m, k = m + 1 := ⟨k - 1, by omega⟩
    rw [hs k i s (by omega) hi, ih (i + 1) (st i s) k (by omega) (hI i s (by omega) hi) (by omega), List.range'_succ]
    rfl

/-- A loop with a state that keeps what is so, and ends in what is asked. -/
theorem inv_loop {n : Nat} {σ ρ : Type} {L : Nat → σ → Int → Option ρ} {I : Nat → σ → Prop} {R : ρ → Prop}
    (hs : ∀ k i s, i < n → I i s → (∃ s', L (k + 1) s (i : Int) = L k s' ((i + 1 : Nat) : Int) ∧ I (i + 1) s') ∨ ∃ r, L (k + 1) s (i : Int) = some r ∧ R r)
    (he : ∀ k s, I n s → ∃ r, L (k + 1) s (n : Int) = some r ∧ R r) :
    ∀ d i s k, i + d = n → I i s → d < k → ∃ r, L k s (i : Int) = some r ∧ R r := by
  intro d
  induction d with
  | zero =>
    intro i s k h hi hk
    obtain ⟨k, rfl⟩ : ∃ m, k = m + 1 := ⟨k - 1, by omega⟩
    obtain rfl : i = n := by omega
    exact he k s hi
  | succ d ih =>
    intro i s k h hi hk
    obtain ⟨k, rfl⟩ : ∃ m, k = m + 1 := ⟨k - 1, by omega⟩
    rcases hs k i s (by omega) hi with ⟨s', h1, h2⟩ | ⟨r, h1, h2⟩
    · rw [h1]; exact ih (i + 1) s' k (by omega) h2 (by omega)
    · exact ⟨r, h1, h2⟩

/-- A loop that fills a new list, place by place. -/
theorem to_loop {α β : Type} {l : List α} {c : α → β} {z : β} {L : Nat → List β → Int → Option (List β)}
    (hs : ∀ k acc i (hi : i < l.length), acc.length = l.length → L (k + 1) acc (i : Int) = L k (acc.set i (c l[i])) ((i + 1 : Nat) : Int))
    (he : ∀ k acc, acc.length = l.length → L (k + 1) acc (l.length : Int) = some acc) :
    ∀ d i k, i + d = l.length → d < k → L k ((l.take i).map c ++ List.replicate d z) (i : Int) = some (l.map c) := by
  intro d
  induction d with
  | zero =>
    intro i k h hk
    obtain ⟨k, rfl⟩ : ∃ m, k = m + 1 := ⟨k - 1, by omega⟩
    obtain rfl : i = l.length := by omega
    rw [he _ _ (by simp)]; simp
  | succ d ih =>
    intro i k h hk
    obtain ⟨k, rfl⟩ : ∃ m, k = m + 1 := ⟨k - 1, by omega⟩
    have hi : i < l.length := by omega
    rw [hs _ _ i hi (by simp; omega), ← ih (i + 1) k (by omega) (by omega)]
    congr 1
    have hl : ((l.take i).map c).length = i := by simp; omega
    rw [List.set_append, if_neg (by omega), hl, Nat.sub_self, List.replicate_succ, List.set_cons_zero, List.take_succ_eq_append_getElem hi, List.map_append, List.append_assoc]
    rfl
theorem to_loop0 {α β : Type} {l : List α} {c : α → β} {z : β} {L : Nat → List β → Int → Option (List β)}
    (hs : ∀ k acc i (hi : i < l.length), acc.length = l.length → L (k + 1) acc (i : Int) = L k (acc.set i (c l[i])) ((i + 1 : Nat) : Int))
    (he : ∀ k acc, acc.length = l.length → L (k + 1) acc (l.length : Int) = some acc) (k : Nat) (hk : l.length < k) : L k (List.replicate l.length z) 0 = some (l.map c) := by
  have := to_loop hs he l.length 0 k (by omega) hk (z := z)
  simpa using this

theorem all_true {n : Nat} {Q : Nat → Bool} (h : ∀ i, i < n → Q i = true) : (List.range n).all Q = true := by
  rw [List.all_eq_true]; intro i hi; exact h i (List.mem_range.1 hi)
theorem all_iff {n : Nat} {Q : Nat → Bool} : (List.range n).all Q = true ↔ ∀ i, i < n → Q i = true := by
  rw [List.all_eq_true]; exact ⟨fun h i hi => h i (List.mem_range.2 hi), fun h i hi => h i (List.mem_range.1 hi)⟩
end Go.Proofs.Ytihpclkpodbndaa.G
