/- Texts of the seat's proofs, part 10: functions of the program told as plain functions, with their contracts, and what is shown of them. No condition. -/
import Derived.Test.YtjlmfnpgcmmdnaaUKFA
import Derived.Test.YtjlmfnpgcmmdnaaKFA8
import Derived.Test.YtjlmfnpgcmmdnaaKFA5
import Derived.Test.YtjlmfnpgcmmdnaaKFA9
import Derived.Test.YtjlmfnpgcmmdnaaKFA1
import Derived.Test.YtjlmfnpgcmmdnaaKFA4
import Derived.Test.YtjlmfnpgcmmdnaaKFA3
import Derived.Deep.Slices
import Derived.ProofKit
import Derived.OpenShut
set_option linter.unusedVariables false
set_option linter.unusedSimpArgs false
set_option linter.unusedVariables false
set_option linter.unusedSimpArgs false
namespace Go.Proofs.Ytjlmfnpgcmmdnaa.C
open Go.RowKit Go.Proofs.Ytjlmfnpgcmmdnaa.P Go.Proofs.Ytjlmfnpgcmmdnaa.G Go.Proofs.YtjlmfnpgcmmdnaaW.PrintWords
end Go.Proofs.Ytjlmfnpgcmmdnaa.C

namespace Go.Proofs.Ytjlmfnpgcmmdnaa.P
open Go.RowKit Go.Proofs.YtjlmfnpgcmmdnaaW.PrintWords Go.Proofs.YtjlmfnpgcmmdnaaW.PrintLast Go.Proofs.YtjlmfnpgcmmdnaaW.PrintMore
attribute [local go_sem] max2_int min2_int max_two min_two max_three min_three max_four min_four
set_option linter.unusedVariables false
set_option linter.unusedSimpArgs false
end Go.Proofs.Ytjlmfnpgcmmdnaa.P

namespace Go.Proofs.Ytjlmfnpgcmmdnaa.C
open Go.RowKit Go.Proofs.Ytjlmfnpgcmmdnaa.P Go.Proofs.Ytjlmfnpgcmmdnaa.G Go.Proofs.YtjlmfnpgcmmdnaaW.PrintWords
theorem dBody (s : List Int) (p z a : Int) (h : At s p) (ha : 0 ≤ a ∧ a ≤ 1000) (k : Nat) (hk : 1100 ≤ k) : ∃ t p' z', spec_l4DrawBody.f k s p z a = some (t, p', z') ∧ At s p' := by
  unfold spec_l4DrawBody.f
  rw [wrap_id (x := a + 1) (by omega) (by omega)]
  obtain ⟨n, p1, z1, e1, a1, b1, b2⟩ := dBelow s p z (a + 1) h
  rw [e1]; simp only [Option.bind_some]
  have := b2 (by omega)
  obtain ⟨m, rfl⟩ := Int.eq_ofNat_of_zero_le b1
  have hL : ∀ (d i k : Nat) (p z : Int) (xs : List Int), i + d = m → d < k → At s p → xs.length = i → ∃ t p' z', spec_l4DrawBody.l0 k xs (m : Int) (i : Int) s p z = some (t, p', z') ∧ At s p' := by
    intro d
    induction d with
    | zero =>
      intro i k p z xs hi hk h hx
      obtain ⟨k, rfl⟩ : ∃ j, k = j + 1 := ⟨k - 1, by omega⟩
      simp only [spec_l4DrawBody.l0]
      rw [if_neg (by omega)]; exact ⟨_, _, _, rfl, h⟩
    | succ d ih =>
      intro i k p z xs hi hk h hx
      obtain ⟨k, rfl⟩ : ∃ j, k = j + 1 := ⟨k - 1, by omega⟩
      simp only [spec_l4DrawBody.l0]
      obtain ⟨v, p2, z2, e2, a2, _⟩ := dPick s p z [97, 98, 99, 32, 48, 0, 255, 128, 34, 92] h (by simp) (by simp)
      rw [if_pos (by omega), e2]; simp only [Option.bind_some]
      rw [if_pos (by omega), wrap_succ (n := m) (by omega) (by omega)]
      exact ih (i + 1) k _ _ _ (by omega) (by omega) a2 (by simp; omega)
  exact hL m 0 k p1 z1 [] (by omega) (by omega) a1 rfl
theorem dFrame (s : List Int) (p z t : Int) (h : At s p) (k : Nat) (hk : 1100 ≤ k) : ∃ a b c d e f p' z', spec_l15DrawFrame.f k s p z t = some (a, b, c, d, e, f, p', z') ∧ At s p' := by
  unfold spec_l15DrawFrame.f
  obtain ⟨a, p1, z1, e1, a1, _⟩ := dBelow s p z 4 h
  rw [e1]; simp only [Option.bind_some]
  obtain ⟨b, p2, z2, e2, a2, _⟩ := dBelow s p1 z1 5 a1
  rw [e2]; simp only [Option.bind_some]
  obtain ⟨c, p3, z3, e3, a3, _⟩ := dBelow s p2 z2 3 a2
  rw [e3]; simp only [Option.bind_some]
  obtain ⟨d, p4, z4, e4, a4, _⟩ := dBelow s p3 z3 14 a3
  rw [e4]; simp only [Option.bind_some]
  obtain ⟨f, p5, z5, e5, a5⟩ := dBody s p4 z4 3 a4 (by omega) k hk
  rw [e5]; exact ⟨_, _, _, _, _, _, _, _, rfl, a5⟩
theorem dBusL (s : List Int) (n : Nat) (hn : n ≤ 60) : ∀ (d i k : Nat) (p z t : Int) (l : List Fr), i + d = n → d + 1100 < k → At s p → l.length = i → ∃ l' p' z', spec_l15DrawBus.l0 k (n : Int) l t (i : Int) s p z = some (l', p', z') ∧ At s p' ∧ l'.length = n := by
  intro d
  induction d with
  | zero =>
    intro i k p z t l hi hk h hl
    obtain ⟨k, rfl⟩ : ∃ j, k = j + 1 := ⟨k - 1, by omega⟩
    simp only [spec_l15DrawBus.l0]
    rw [if_neg (by omega)]
    split
    · obtain ⟨j, p1, z1, e1, a1, b1, b2⟩ := dBelow s p z (l.length : Int) h
      rw [e1]; simp only [Option.bind_some]
      have := b2 (by omega)
      obtain ⟨c, p2, z2, e2, a2, _⟩ := dBelow s p1 z1 30 a1
      rw [e2]; simp only [Option.bind_some]
      simp only [if_pos (show 0 ≤ j from b1), if_pos (show j < (l.length : Int) from this)]
      split
      · exact ⟨_, _, _, rfl, a2, by simp; omega⟩
      split
      · exact ⟨_, _, _, rfl, a2, by simp; omega⟩
      split
      · obtain ⟨v, p3, z3, e3, a3, _⟩ := dBelow s p2 z2 2 a2
        rw [e3]; simp only [Option.bind_some]; exact ⟨_, _, _, rfl, a3, by simp; omega⟩
      split
      · exact ⟨_, _, _, rfl, a2, by simp; omega⟩
      · exact ⟨_, _, _, rfl, a2, by omega⟩
    · exact ⟨_, _, _, rfl, h, by omega⟩
  | succ d ih =>
    intro i k p z t l hi hk h hl
    obtain ⟨k, rfl⟩ : ∃ j, k = j + 1 := ⟨k - 1, by omega⟩
    simp only [spec_l15DrawBus.l0]
    obtain ⟨v, p1, z1, e1, a1, _⟩ := dBelow s p z 20 h
    rw [if_pos (by omega), e1]; simp only [Option.bind_some]
    obtain ⟨a, b, c, dd, e, f, p2, z2, e2, a2⟩ := dFrame s p1 z1 (wrap64 (t + v)) a1 k (by omega)
    rw [e2]; simp only [Option.bind_some]
    rw [if_pos (by omega), wrap_succ (n := n) (by omega) (by omega)]
    exact ih (i + 1) k _ _ _ _ (by omega) (by omega) a2 (by simp; omega)
theorem dBus (s : List Int) (p z a : Int) (h : At s p) (ha : 0 ≤ a ∧ a ≤ 60) (k : Nat) (hk : 1300 ≤ k) : ∃ l p' z', spec_l15DrawBus.f k s p z a = some (l, p', z') ∧ At s p' ∧ l.length ≤ 60 := by
  obtain ⟨k, rfl⟩ : ∃ j, k = j + 1 := ⟨k - 1, by omega⟩
  unfold spec_l15DrawBus.f
  rw [wrap_id (x := a + 1) (by omega) (by omega)]
  obtain ⟨n, p1, z1, e1, a1, b1, b2⟩ := dBelow s p z (a + 1) h
  rw [e1]; simp only [Option.bind_some]
  have := b2 (by omega)
  obtain ⟨o, p2, z2, e2, a2⟩ := dOnce s p1 z1 25 a1
  rw [e2]; simp only [Option.bind_some, spec_l15DrawBus.j0]
  obtain ⟨v, p3, z3, e3, a3, _⟩ := dBelow s p2 z2 20 a2
  rw [e3]; simp only [Option.bind_some]
  split
  · obtain ⟨l, p4, z4, e4, a4, hl⟩ := dBusL s 60 (by omega) 60 0 k p3 z3 v [] (by omega) (by omega) a3 rfl
    exact ⟨_, _, _, e4, a4, by omega⟩
  · obtain ⟨m, rfl⟩ := Int.eq_ofNat_of_zero_le b1
    obtain ⟨l, p4, z4, e4, a4, hl⟩ := dBusL s m (by omega) m 0 k p3 z3 v [] (by omega) (by omega) a3 rfl
    exact ⟨_, _, _, e4, a4, by omega⟩
theorem dSize (s : List Int) (hs : s.length ≤ 1048576) (a : Int) (ha : 2 ≤ a ∧ a ≤ 1000) : ∃ v, spec_l1Size.f s a = some v ∧ 0 ≤ v ∧ v ≤ a := by
  unfold spec_l1Size.f
  have h1 : 0 ≤ (s.length : Int) / 20 := Int.ediv_nonneg (by omega) (by omega)
  have h2 : (s.length : Int) / 20 ≤ 1048576 := by omega
  rw [wrap_id (x := (s.length : Int) / 20) (by omega) (by omega), wrap_id (x := 2 + (s.length : Int) / 20) (by omega) (by omega)]
  split
  · exact ⟨_, rfl, by omega, by omega⟩
  · exact ⟨_, rfl, by omega, by omega⟩
theorem dHeard15 (s : List Int) (hs : s.length ≤ 1048576) (k : Nat) (hk : 1050000 ≤ k) : ∃ l t, spec_DrawBusHeard.f k s = some (l, t) ∧ l.length ≤ 60 := by
  unfold spec_DrawBusHeard.f
  obtain ⟨z0, e0, a0⟩ := dNew s hs k (by omega)
  rw [e0, Option.bind_some]; dsimp only
  obtain ⟨n, en, n1, n2⟩ := dSize s hs 12 (by omega)
  rw [en, Option.bind_some]
  obtain ⟨l, p1, z1, e1, a1, hl⟩ := dBus s 0 z0 n a0 (by omega) k (by omega)
  rw [e1, Option.bind_some]; dsimp only
  obtain ⟨u, p2, z2, e2, a2, _⟩ := dBelow s p1 z1 250 a1
  rw [e2, Option.bind_some]
  exact ⟨_, _, rfl, hl⟩
theorem mem_wh (g : Nat → Bool) (x : Int) : ∀ n, x ∈ wh g n ↔ ∃ i, i < n ∧ g i = true ∧ x = (i : Int) := by
  intro n
  induction n with
  | zero =>
    rw [wh]
    constructor
    · intro h; cases h
    · rintro ⟨i, hi, _⟩; omega
  | succ n ih =>
    rw [wh]
    cases hg : g n with
    | true =>
      rw [if_pos rfl, List.mem_append, ih, List.mem_singleton]
      constructor
      · rintro (⟨i, hi, h1, h2⟩ | h)
        · exact ⟨i, by omega, h1, h2⟩
        · exact ⟨n, by omega, hg, h⟩
      · rintro ⟨i, hi, h1, h2⟩
        by_cases hn : i = n
        · right; rw [h2, hn]
        · left; exact ⟨i, by omega, h1, h2⟩
    | false =>
      rw [if_neg (by decide), ih]
      constructor
      · rintro ⟨i, hi, h1, h2⟩; exact ⟨i, by omega, h1, h2⟩
      · rintro ⟨i, hi, h1, h2⟩
        by_cases hn : i = n
        · rw [hn, hg] at h1; cases h1
        · exact ⟨i, by omega, h1, h2⟩
theorem rdIA (l : List Int) (i : Nat) (h : i < l.length) : rd l (i : Int) = l[i] := by
  unfold rd; simp [List.getD, h]
theorem within_eq (l : List Int) (x : Int) (hl : l.length ≤ 1048576) (k : Nat) (hk : l.length < k) : laws_within.f k l x = some (decide (x ∈ l)) := by
  unfold laws_within.f
  have : ∀ d i k, i + d = l.length → d < k → laws_within.l0 k l x (i : Int) = some (decide (x ∈ l.drop i)) := by
    intro d
    induction d with
    | zero =>
      intro i k hi hk
      obtain ⟨k, rfl⟩ : ∃ j, k = j + 1 := ⟨k - 1, by omega⟩
      simp only [laws_within.l0]
      rw [if_neg (by omega), List.drop_of_length_le (by omega), decide_eq_false (by simp)]
    | succ d ih =>
      intro i k hi hk
      obtain ⟨k, rfl⟩ : ∃ j, k = j + 1 := ⟨k - 1, by omega⟩
      have ih := ih (i + 1) k (by omega) (by omega)
      simp only [laws_within.l0]
      rw [if_pos (by omega), if_pos (by omega), rdIA l i (by omega), wrap_succ (show i < l.length by omega) (by omega), List.drop_eq_getElem_cons (show i < l.length by omega)]
      by_cases h : l[i] = x
      · rw [if_pos h, decide_eq_true (by rw [h]; exact List.mem_cons_self)]
      · rw [if_neg h, ih]
        congr 1
        rw [decide_eq_decide, List.mem_cons]
        constructor
        · intro h2; exact Or.inr h2
        · rintro (h2 | h2)
          · exact absurd h2.symm h
          · exact h2
  have := this l.length 0 k (by omega) hk
  rw [List.drop_zero] at this
  exact this
theorem mem_clFold (l : List Fr) (i : Nat) (x : Cl) : ∀ (d j : Nat) (acc : List Cl), x ∈ (List.range' j d).foldl (fun s j => clStep l i s j) acc ↔ (x ∈ acc ∨ ∃ m, j ≤ m ∧ m < j + d ∧ cl l i m = true ∧ x = ⟨i, m⟩) := by
  intro d
  induction d with
  | zero =>
    intro j acc
    rw [List.range'_zero, List.foldl_nil]
    constructor
    · intro h; exact Or.inl h
    · rintro (h | ⟨m, h1, h2, _⟩)
      · exact h
      · omega
  | succ d ih =>
    intro j acc
    rw [List.range'_succ, List.foldl_cons, ih]
    unfold clStep
    cases hc : cl l i j with
    | true =>
      rw [if_pos rfl, List.mem_append, List.mem_singleton]
      constructor
      · rintro ((h | h) | ⟨m, h1, h2, h3⟩)
        · exact Or.inl h
        · exact Or.inr ⟨j, by omega, by omega, hc, h⟩
        · exact Or.inr ⟨m, by omega, by omega, h3⟩
      · rintro (h | ⟨m, h1, h2, h3, h4⟩)
        · exact Or.inl (Or.inl h)
        · by_cases hm : m = j
          · left; right; rw [h4, hm]
          · right; exact ⟨m, by omega, by omega, h3, h4⟩
    | false =>
      rw [if_neg (by decide)]
      constructor
      · rintro (h | ⟨m, h1, h2, h3⟩)
        · exact Or.inl h
        · exact Or.inr ⟨m, by omega, by omega, h3⟩
      · rintro (h | ⟨m, h1, h2, h3, h4⟩)
        · exact Or.inl h
        · by_cases hm : m = j
          · rw [hm, hc] at h3; cases h3
          · right; exact ⟨m, by omega, by omega, h3, h4⟩
theorem mem_clF (l : List Fr) (x : Cl) : ∀ n, x ∈ clF l n ↔ ∃ i m : Nat, i < n ∧ i < m ∧ m < l.length ∧ cl l i m = true ∧ x = ⟨i, m⟩ := by
  intro n
  induction n with
  | zero =>
    rw [clF]
    constructor
    · intro h; cases h
    · rintro ⟨i, m, h, _⟩; omega
  | succ n ih =>
    rw [clF]
    unfold clRow
    rw [mem_clFold, ih]
    constructor
    · rintro (⟨i, m, h1, h2, h3, h4⟩ | ⟨m, h1, h2, h3, h4⟩)
      · exact ⟨i, m, by omega, h2, h3, h4⟩
      · exact ⟨n, m, by omega, by omega, by omega, h3, h4⟩
    · rintro ⟨i, m, h1, h2, h3, h4, h5⟩
      by_cases hi : i = n
      · subst hi
        right; exact ⟨m, by omega, by omega, h4, h5⟩
      · left; exact ⟨i, m, by omega, h2, h3, h4, h5⟩
theorem cl_comm (l : List Fr) (i j : Nat) (hi : i < l.length) (hj : j < l.length) : cl l i j = cl l j i := by
  rw [cl_eq l i j hi hj, cl_eq l j i hj hi, Bool.and_comm]
def okp (i : Int) (p : Cl) : Bool := !(p.f0 == i) && (p.f1 != i)
theorem okp_all {l : List Fr} (h : busOk l = true) (i : Nat) (hi : i < l.length) : (clashes l).all (okp (i : Int)) = aloneIs l i := by
  rw [Bool.eq_iff_iff, List.all_eq_true]
  unfold aloneIs clashes
  rw [if_pos h, beq_iff_eq, wh_one (cl l i) l.length i hi (cl_self h i hi)]
  constructor
  · intro h2 m hm hne
    cases hc : cl l i m with
    | false => rfl
    | true =>
      by_cases hlt : i < m
      · have := h2 ⟨i, m⟩ ((mem_clF l _ _).2 ⟨i, m, hi, hlt, hm, hc, rfl⟩)
        unfold okp at this; simp at this
      · have := h2 ⟨m, i⟩ ((mem_clF l _ _).2 ⟨m, i, hm, by omega, hi, by rw [cl_comm l m i hm hi]; exact hc, rfl⟩)
        unfold okp at this; simp at this
  · intro h2 x hx
    obtain ⟨a, b, ha, hab, hb, hc, rfl⟩ := (mem_clF l _ _).1 hx
    unfold okp
    rw [Bool.and_eq_true]
    constructor
    · rw [Bool.not_eq_true', beq_eq_false_iff_ne]
      intro e
      have e : a = i := by exact Int.ofNat.inj e
      subst e
      have := h2 b hb (by omega)
      rw [hc] at this; cases this
    · rw [bne_iff_ne]
      intro e
      have e : b = i := by exact Int.ofNat.inj e
      subst e
      have := h2 a (by omega) (by omega)
      rw [cl_comm l b a hb (by omega), hc] at this; cases this
theorem aloneL1 (l : List Fr) (t : Int) (heard : List Int) (pairs : List Cl) (hp : pairs.length ≤ 3600) (many : Int) (i : Int) (r : Option Bool) (c : Nat) : ∀ d j k (b : Bool), j + d = pairs.length → d + c < k →
    (∀ k', c ≤ k' → ((laws_within.f k' heard i).bind fun q => if ((b && (pairs.drop j).all (okp i)) != q) = true then some false else laws_FnAlone.l0 k' l t heard pairs many (wrap64 (i + 1))) = r) →
    laws_FnAlone.l1 k l t heard pairs many i b (j : Int) = r := by
  intro d
  induction d with
  | zero =>
    intro j k b hj hk h
    obtain ⟨k, rfl⟩ : ∃ j, k = j + 1 := ⟨k - 1, by omega⟩
    have h1 := h k (by omega)
    rw [List.drop_of_length_le (by omega), List.all_nil, Bool.and_true] at h1
    simp only [laws_FnAlone.l1]
    rw [if_neg (by omega)]
    exact h1
  | succ d ih =>
    intro j k b hj hk h
    obtain ⟨k, rfl⟩ : ∃ j, k = j + 1 := ⟨k - 1, by omega⟩
    rw [List.drop_eq_getElem_cons (show j < pairs.length by omega), List.all_cons] at h
    simp only [laws_FnAlone.l1]
    rw [if_pos (by omega), wrap_succ (show j < pairs.length by omega) (by omega), rdCl pairs j (by omega)]
    cases b with
    | false =>
      rw [if_neg (by decide)]
      refine ih (j + 1) k false (by omega) (by omega) (fun k' hk' => ?_)
      have := h k' hk'
      rw [Bool.false_and] at this ⊢; exact this
    | true =>
      rw [if_pos rfl, if_pos (by omega)]
      by_cases h1 : pairs[j].f0 = i
      · rw [if_pos h1]
        refine ih (j + 1) k false (by omega) (by omega) (fun k' hk' => ?_)
        have := h k' hk'
        have ho : okp i pairs[j] = false := by unfold okp; rw [h1, beq_self_eq_true]; rfl
        rw [ho, Bool.false_and, Bool.and_false] at this
        rw [Bool.false_and]; exact this
      · rw [if_neg h1]
        refine ih (j + 1) k _ (by omega) (by omega) (fun k' hk' => ?_)
        have := h k' hk'
        have ho : okp i pairs[j] = (pairs[j].f1 != i) := by unfold okp; rw [beq_eq_false_iff_ne.2 h1]; rfl
        rw [ho, Bool.true_and] at this
        exact this
theorem frOk_from {l : List Fr} (h : busOk l = true) (i : Nat) (hi : i < l.length) : 0 ≤ l[i].f0 ∧ l[i].f0 < 8 := by
  unfold busOk at h
  rw [Bool.and_eq_true, List.all_eq_true] at h
  have h := h.1 i (List.mem_range.2 hi)
  unfold frOk at h
  rw [List.getElem?_eq_getElem hi] at h
  simp only [Bool.and_eq_true] at h
  have h := h.1
  unfold frameOk at h
  simp only [Bool.and_eq_true, decide_eq_true_eq] at h
  omega
def inB (l : List Fr) (n : Nat) (i : Nat) : Bool := match l[i]? with
  | some x => decide (0 ≤ x.f0 ∧ x.f0 < (n : Int))
  | none => false
theorem inB_eq (l : List Fr) (n i : Nat) (hi : i < l.length) : inB l n i = decide (0 ≤ l[i].f0 ∧ l[i].f0 < (n : Int)) := by
  unfold inB; rw [List.getElem?_eq_getElem hi]
theorem inB_succ (l : List Fr) (n : Nat) : ∀ m, m ≤ l.length → (wh (inB l (n + 1)) m).length = (wh (inB l n) m).length + (wh (fromIs l n) m).length := by
  intro m
  induction m with
  | zero => intro _; rfl
  | succ m ih =>
    intro hm
    have ih := ih (by omega)
    rw [wh, wh, wh, inB_eq l _ m (by omega), inB_eq l n m (by omega), fromIs_eq l n m (by omega)]
    by_cases h1 : l[m].f0 = (n : Int)
    · rw [if_pos (decide_eq_true (by omega)), if_neg (by rw [decide_eq_true_eq]; omega), if_pos (by rw [h1]; exact beq_self_eq_true _), List.length_append, List.length_append, List.length_singleton]; omega
    · rw [if_neg (show ¬ ((l[m].f0 == (n : Int)) = true) by rw [beq_iff_eq]; exact h1)]
      by_cases h2 : 0 ≤ l[m].f0 ∧ l[m].f0 < (n : Int)
      · rw [if_pos (decide_eq_true (by omega)), if_pos (decide_eq_true h2), List.length_append, List.length_append, List.length_singleton]; omega
      · rw [if_neg (by rw [decide_eq_true_eq]; omega), if_neg (by rw [decide_eq_true_eq]; exact h2)]; exact ih
theorem inB_zero (l : List Fr) : (wh (inB l 0) l.length).length = 0 := by
  rw [wh_nil]
  intro i hi
  rw [inB_eq l 0 i hi, decide_eq_false (by omega)]
theorem inB_all {l : List Fr} (h : busOk l = true) : ∀ m, m ≤ l.length → (wh (inB l 8) m).length = m := by
  intro m
  induction m with
  | zero => intro _; rfl
  | succ m ih =>
    intro hm
    have := frOk_from h m (by omega)
    rw [wh, inB_eq l 8 m (by omega), if_pos (decide_eq_true (by omega)), List.length_append, List.length_singleton, ih (by omega)]
theorem aloneL2 {l : List Fr} (h : busOk l = true) (k : Nat) (hk : 1050100 ≤ k) : laws_FnAlone.l2 k l 0 0 = some true := by
  have hb := busOk_len h
  have := track_loop0 (n := 8) (c := 1050000) (σ := Int) (F := fun i => ((wh (inB l i) l.length).length : Int)) (L := fun k s i => laws_FnAlone.l2 k l s i) (r := true) (fun k i hi hk => ?_) (fun k hk => ?_) k (by omega)
  · simp only [inB_zero] at this
    exact this
  · simp only [laws_FnAlone.l2]
    have h1 := inB_succ l i l.length (by omega)
    have h2 := wh_len (inB l i) l.length
    have h3 := wh_len (fromIs l i) l.length
    rw [if_pos (by omega), iBusOf l i (by omega) k (by omega), Option.bind_some, wrap_succ hi (by omega)]
    unfold busOf
    rw [if_pos h, wrap_id (by omega) (by omega), h1]
    congr 1
  · simp only [laws_FnAlone.l2]
    rw [if_neg (by omega), inB_all h l.length (by omega), beq_self_eq_true]
theorem aloneL0 {l : List Fr} (h : busOk l = true) (t : Int) (M : Nat) (hM : 3700 ≤ M) (C : Nat) (hC : 1060000 ≤ C) : ∀ d i k, i + d = l.length → M * d + C < k → laws_FnAlone.l0 k l t (busHeard l t) (clashes l) 0 (i : Int) = some true := by
  have hb := busOk_len h
  intro d
  induction d with
  | zero =>
    intro i k hi hk
    rw [Nat.mul_zero] at hk
    obtain ⟨k, rfl⟩ : ∃ j, k = j + 1 := ⟨k - 1, by omega⟩
    simp only [laws_FnAlone.l0]
    rw [if_neg (by omega)]
    exact aloneL2 h k (by omega)
  | succ d ih =>
    intro i k hi hk
    rw [Nat.mul_succ] at hk
    generalize M * d = x at hk ih
    obtain ⟨k, rfl⟩ : ∃ j, k = j + 1 := ⟨k - 1, by omega⟩
    have hp := clashes_len l
    have hh := busHeard_len l t
    simp only [laws_FnAlone.l0]
    rw [if_pos (by omega), if_pos (by omega), rdFr l i (by omega)]
    have hlt : (clashes l).length + (x + C + 1) < k := by
      clear hh ih h
      generalize (clashes l).length = y at hp ⊢
      clear hC
      omega
    refine aloneL1 l t (busHeard l t) (clashes l) hp 0 (i : Int) (some true) (x + C + 1) (clashes l).length 0 k _ (Nat.zero_add _) hlt (fun k' hk' => ?_)
    rw [within_eq _ _ (by omega) k' (by omega), Option.bind_some, List.drop_zero, okp_all h i (by omega), ← heardIs_eq l t i (by omega), wrap_succ (show i < l.length by omega) (by omega)]
    have hm : decide ((i : Int) ∈ busHeard l t) = heardIs l t i := by
      rw [Bool.eq_iff_iff, decide_eq_true_eq]
      unfold busHeard
      rw [if_pos h, mem_wh]
      constructor
      · rintro ⟨j, hj, h1, h2⟩
        have : i = j := by omega
        rw [this]; exact h1
      · intro h1; exact ⟨i, by omega, h1, rfl⟩
    rw [hm, if_neg (by simp)]
    refine ih (i + 1) k' (by omega) ?_
    clear hh hp hlt hm ih h hC
    omega
theorem dBig (s : List Int) : laws_big.f s = some (decide ((s.length : Int) > 1048576)) := rfl
end Go.Proofs.Ytjlmfnpgcmmdnaa.C
namespace Go.Proofs.Ytjlmfnpgcmmdnaa.V
open Go.RowKit Go.Proofs.Ytjlmfnpgcmmdnaa.P Go.Proofs.Ytjlmfnpgcmmdnaa.C Go.Proofs.Ytjlmfnpgcmmdnaa.G
theorem FnAlone : ∀ (l0 : List Int), (l0.length ≤ 9223372036854775807 ∧ ∀ y ∈ l0, (Lit.int .u8 y).wf = true) → ∃ k, laws_FnAlone.f k l0 = some true := by
  intro s ⟨hs, _⟩
  refine ⟨3000000, ?_⟩
  unfold laws_FnAlone.f
  rw [dBig, Option.bind_some]
  by_cases hbig : (s.length : Int) > 1048576
  · rw [decide_eq_true hbig, if_pos rfl]
  rw [decide_eq_false hbig, if_neg (by decide)]
  obtain ⟨l, t, e, hl⟩ := dHeard15 s (by omega) 3000000 (by omega)
  rw [e, Option.bind_some]; dsimp only
  rw [iBusHeard l t (by omega) _ (by omega), Option.bind_some, sClashes l (by omega) _ (by omega), Option.bind_some, sBusOk l (by omega) _ (by omega), Option.bind_some]
  cases h : busOk l with
  | true =>
    rw [if_pos rfl]
    obtain ⟨M, hM, hM2⟩ : ∃ M : Nat, 3700 ≤ M ∧ M * 60 ≤ 300000 := ⟨3700, by decide, by decide⟩
    have h60 := Nat.mul_le_mul_left M hl
    exact aloneL0 h t M hM 1060000 (Nat.le_refl _) l.length 0 3000000 (Nat.zero_add _) (Nat.lt_of_le_of_lt (Nat.add_le_add_right (Nat.le_trans h60 hM2) _) (by decide))
  | false =>
    have hn : busHeard l t = [] := by unfold busHeard; rw [h, if_neg (by decide)]
    rw [if_neg (by decide), hn, if_pos (show (([] : List Int).length : Int) = 0 from rfl), iBusOk l (by omega) _ (by omega), Option.bind_some, h]; rfl
end Go.Proofs.Ytjlmfnpgcmmdnaa.V
namespace Go.Proofs.Ytjlmfnpgcmmdnaa.Args
open Go.ChangeShapes Go.WideShapes Go.Deep Go.Proofs.YtjlmfnpgcmmdnaaW.PrintWords
def Opens (P : Program) (t : TypeId) {α : Type} (d : Kd α) (B : α → Prop) : Prop :=
  ∀ {H : Type} {enc : TypeId × Value → H} {w : World} {base : Nat} {spare : Nat → Bool} {held : Bool} {fuel : Nat} {cs : List Value} {x : DataW H × List MemPlace},
    DataW.trod enc P w base spare held fuel t cs = some x → ∃ a, d.K w a cs ∧ B a
theorem open_row {H : Type} {enc : TypeId × Value → H} {P : Program} {w : World} {base : Nat} {spare : Nat → Bool} {held : Bool} {fuel : Nat} {t e : TypeId} {c : Value} {x : DataW H × List MemPlace} {α : Type} {d : Kd α} {B : α → Prop} (z : α)
    (ht : P.underlying t = some (.slice e)) (hsz : P.cellsOf e = d.sz) (he : Opens P e d B) (h : DataW.trod enc P w base spare held fuel t [c] = some x) :
    ∃ A cap l, c = .slice A l.length cap ∧ Kd.C d w A l.length l ∧ l.length ≤ cap ∧ l.length ≤ 9223372036854775807 ∧ ∀ y ∈ l, B y := by
  haveI : Inhabited α := ⟨z⟩
  rcases open_slice ht h with ⟨hc, _⟩ | ⟨a, len, cap, m, n, D, Pl, hc, _, hl, hm, hmm, _, hx⟩
  · obtain rfl := List.head_eq_of_cons_eq hc
    exact ⟨none, 0, [], rfl, Kd.C_nil _ _, Nat.le_refl _, by simp, fun y hy => by cases hy⟩
  · obtain rfl := List.head_eq_of_cons_eq hc
    have hlm : len ≤ m := by rw [hmm]; split <;> omega
    obtain ⟨f, hf⟩ := choose_lt (α := α) (n := len) (p := fun i y => (∃ c', c'.length = d.sz ∧ d.K w y c' ∧ ∀ k u, c'[k]? = some u → w.cell? (a.add (i * d.sz + k)) = some u) ∧ B y) (fun i hi => by
      obtain ⟨cs', h1, h2⟩ := hx i (by omega)
      obtain ⟨y, hk, hb⟩ := he h2
      refine ⟨y, ⟨cs', d.K_len hk, hk, fun k u hu => ?_⟩, hb⟩
      obtain ⟨_, hlen, hcell⟩ := World.cells?_some h1
      have hk2 : k < cs'.length := (List.getElem?_eq_some_iff.1 hu).1
      have := hcell k (by omega)
      rw [hsz, Addr.add_add] at this
      rw [this, hu])
    have hmax : len ≤ 9223372036854775807 := by unfold maxLen at hm; omega
    refine ⟨some a, cap, (List.range len).map f, by simp, ⟨by simp, by simpa using hmax, fun _ => ⟨a, rfl, fun j p hj => ?_⟩⟩, by simpa using hl, by simpa using hmax, fun y hy => ?_⟩
    · have hj2 : j < len := by simpa using (List.getElem?_eq_some_iff.1 hj).1
      rw [List.getElem?_map, List.getElem?_range hj2] at hj
      obtain rfl := Option.some.inj hj
      exact (hf j hj2).1
    · obtain ⟨j, hj, rfl⟩ := List.mem_map.1 hy
      exact (hf j (List.mem_range.1 hj)).2
theorem opens_int {P : Program} {t : TypeId} {k : IntKind} (ht : P.underlying t = some (.int k)) : Opens P t (Kd.int k) (fun x => (Lit.int k x).wf = true) := by
  intro H enc w base spare held fuel cs x h
  obtain ⟨n, rfl, _, hw⟩ := DataW.trod_int ht h
  exact ⟨n, rfl, hw⟩
end Go.Proofs.Ytjlmfnpgcmmdnaa.Args
