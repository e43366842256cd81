/- Texts of the seat's proofs, part 8: functions of the program told as plain functions, with their contracts, and what is shown of them. No condition. -/
import Derived.Test.YtjlmfnpgcmmdnaaUKFA
import Derived.Test.YtjlmfnpgcmmdnaaKFA1
import Derived.Test.YtjlmfnpgcmmdnaaKFA3
import Derived.Test.YtjlmfnpgcmmdnaaKFA7
import Derived.Test.YtjlmfnpgcmmdnaaKFA2
import Derived.Test.YtjlmfnpgcmmdnaaKFA5
import Derived.Test.YtjlmfnpgcmmdnaaKFA4
import Derived.Laws.Bits128
set_option linter.unusedVariables false
set_option linter.unusedSimpArgs false
namespace Go.Proofs.Ytjlmfnpgcmmdnaa.P
open Go.RowKit Go.Proofs.YtjlmfnpgcmmdnaaW.PrintWords Go.Proofs.YtjlmfnpgcmmdnaaW.PrintLast Go.Proofs.YtjlmfnpgcmmdnaaW.PrintMore
attribute [local go_sem] max2_int min2_int max_two min_two max_three min_three max_four min_four
set_option linter.unusedVariables false
set_option linter.unusedSimpArgs false
end Go.Proofs.Ytjlmfnpgcmmdnaa.P

namespace Go.Proofs.Ytjlmfnpgcmmdnaa.P
open Go.RowKit Go.Proofs.YtjlmfnpgcmmdnaaW.PrintWords Go.Proofs.YtjlmfnpgcmmdnaaW.PrintLast Go.Proofs.YtjlmfnpgcmmdnaaW.PrintMore
attribute [local go_sem] max2_int min2_int max_two min_two max_three min_three max_four min_four
set_option linter.unusedVariables false
set_option linter.unusedSimpArgs false
end Go.Proofs.Ytjlmfnpgcmmdnaa.P

namespace Go.Proofs.Ytjlmfnpgcmmdnaa.P
open Go.RowKit Go.Proofs.YtjlmfnpgcmmdnaaW.PrintWords Go.Proofs.YtjlmfnpgcmmdnaaW.PrintLast Go.Proofs.YtjlmfnpgcmmdnaaW.PrintMore
attribute [local go_sem] max2_int min2_int max_two min_two max_three min_three max_four min_four
set_option linter.unusedVariables false
set_option linter.unusedSimpArgs false
end Go.Proofs.Ytjlmfnpgcmmdnaa.P

namespace Go.Proofs.Ytjlmfnpgcmmdnaa.P
open Go.RowKit Go.Proofs.YtjlmfnpgcmmdnaaW.PrintWords Go.Proofs.YtjlmfnpgcmmdnaaW.PrintLast Go.Proofs.YtjlmfnpgcmmdnaaW.PrintMore
attribute [local go_sem] max2_int min2_int max_two min_two max_three min_three max_four min_four
set_option linter.unusedVariables false
set_option linter.unusedSimpArgs false
end Go.Proofs.Ytjlmfnpgcmmdnaa.P

namespace Go.Proofs.Ytjlmfnpgcmmdnaa.C
open Go.RowKit Go.Proofs.Ytjlmfnpgcmmdnaa.P Go.Proofs.Ytjlmfnpgcmmdnaa.G Go.Proofs.YtjlmfnpgcmmdnaaW.PrintWords
def wh (g : Nat → Bool) : Nat → List Int
  | 0 => []
  | i + 1 => if g i = true then wh g i ++ [(i : Int)] else wh g i
theorem wh_len (g : Nat → Bool) : ∀ n, (wh g n).length ≤ n := by
  intro n
  induction n with
  | zero => simp [wh]
  | succ n ih =>
    rw [wh]; split
    · rw [List.length_append, List.length_singleton]; omega
    · omega
theorem wh_nil (g : Nat → Bool) : ∀ n, (wh g n).length = 0 ↔ ∀ i, i < n → g i = false := by
  intro n
  induction n with
  | zero => simp [wh]
  | succ n ih =>
    rw [wh]
    cases h : g n with
    | true =>
      rw [if_pos rfl]
      constructor
      · intro h2; simp at h2
      · intro h2; have := h2 n (by omega); rw [h] at this; cases this
    | false =>
      rw [if_neg (by decide), ih]
      constructor
      · intro h2 i hi
        by_cases hn : i = n
        · rw [hn]; exact h
        · exact h2 i (by omega)
      · intro h2 i hi; exact h2 i (by omega)
theorem wh_one (g : Nat → Bool) : ∀ n i, i < n → g i = true → ((wh g n).length = 1 ↔ ∀ k, k < n → k ≠ i → g k = false) := by
  intro n
  induction n with
  | zero => intro i hi; omega
  | succ n ih =>
    intro i hi h
    rw [wh]
    by_cases hn : i = n
    · subst hn
      rw [if_pos h, List.length_append, List.length_singleton]
      have := wh_nil g i
      constructor
      · intro h2 k hk hne; exact this.1 (by omega) k (by omega)
      · intro h2; have := this.2 (fun k hk => h2 k (by omega) (by omega)); omega
    · have ih := ih i (by omega) h
      cases hg : g n with
      | false =>
        rw [if_neg (by decide), ih]
        constructor
        · intro h2 k hk hne
          by_cases hkn : k = n
          · rw [hkn]; exact hg
          · exact h2 k (by omega) hne
        · intro h2 k hk hne; exact h2 k (by omega) hne
      | true =>
        rw [if_pos rfl, List.length_append, List.length_singleton]
        have hz := wh_nil g n
        constructor
        · intro h2
          have := hz.1 (by omega) i (by omega)
          rw [h] at this; cases this
        · intro h2
          have := h2 n (by omega) (by omega)
          rw [hg] at this; cases this
theorem iPlaces (p : Fr → Option Bool) (g : Nat → Bool) (l : List Fr) (hl : l.length ≤ 1048576) (hp : ∀ i (hi : i < l.length), p l[i] = some (g i)) (k : Nat) (hk : l.length < k) :
    impl_places_Frame.f p k l = some (wh g l.length) := by
  unfold impl_places_Frame.f
  refine track_loop0 (n := l.length) (c := 0) (σ := List Int) (F := fun i => wh g i) (L := fun k s i => impl_places_Frame.l0 p k s l (l.length : Int) i) (r := wh g l.length) (fun k i hi hk => ?_) (fun k hk => ?_) k (by omega)
  · simp only [impl_places_Frame.l0]
    have := wh_len g i
    rw [if_pos (by omega), if_pos (by omega), if_pos (by omega), rdFr l i hi, hp i hi, Option.bind_some, wrap_succ hi (by omega), wh]
    cases g i with
    | true => rw [if_pos rfl, if_pos (by omega), if_pos rfl]
    | false => rw [if_neg (by decide), if_neg (by decide)]
  · simp only [impl_places_Frame.l0]
    rw [if_neg (by omega)]
def fromIs (l : List Fr) (n : Int) (i : Nat) : Bool := match l[i]? with
  | some x => x.f0 == n
  | none => false
theorem fromIs_eq (l : List Fr) (n : Int) (i : Nat) (hi : i < l.length) : fromIs l n i = (l[i].f0 == n) := by
  unfold fromIs; rw [List.getElem?_eq_getElem hi]
def busOf (l : List Fr) (n : Int) : List Int := if busOk l = true then wh (fromIs l n) l.length else []
theorem iBusOf (l : List Fr) (n : Int) (hl : l.length ≤ 1048576) (k : Nat) (hk : 1050000 ≤ k) : impl_BusOf.f k l n = some (busOf l n) := by
  unfold impl_BusOf.f busOf
  rw [iBusOk l hl k (by omega), Option.bind_some]
  cases h : busOk l with
  | true =>
    rw [if_pos rfl, if_pos rfl]
    exact iPlaces _ (fromIs l n) l hl (fun i hi => by rw [fromIs_eq l n i hi]) k (by omega)
  | false => rw [if_neg (by decide), if_neg (by decide)]
def aloneIs (l : List Fr) (i : Nat) : Bool := (wh (cl l i) l.length).length == 1
def heardIs (l : List Fr) (t : Int) (i : Nat) : Bool := match l[i]? with
  | some x => decide (x.f4 ≤ t) && aloneIs l i
  | none => false
theorem heardIs_eq (l : List Fr) (t : Int) (i : Nat) (hi : i < l.length) : heardIs l t i = (decide (l[i].f4 ≤ t) && aloneIs l i) := by
  unfold heardIs; rw [List.getElem?_eq_getElem hi]
def busHeard (l : List Fr) (t : Int) : List Int := if busOk l = true then wh (heardIs l t) l.length else []
theorem busHeard_len (l : List Fr) (t : Int) : (busHeard l t).length ≤ 60 := by
  unfold busHeard; split
  · rename_i h
    have := busOk_len h
    have := wh_len (heardIs l t) l.length
    omega
  · simp
theorem iClash (a b : Fr) : impl_clash.f a.f0 a.f1 a.f2 a.f3 a.f4 a.f5 b.f0 b.f1 b.f2 b.f3 b.f4 b.f5 = some (decide (a.f3 < b.f4) && decide (b.f3 < a.f4)) := by
  unfold impl_clash.f
  by_cases h1 : a.f3 < b.f4
  · rw [if_pos h1, decide_eq_true h1, Bool.true_and]
  · rw [if_neg h1, decide_eq_false h1, Bool.false_and]
theorem iHeard1 (l : List Fr) (t : Int) (hl : l.length ≤ 1048576) (i : Nat) (hi : i < l.length) (k : Nat) (hk : l.length < k) : impl_BusHeard_1.f k l t l[i] = some (heardIs l t i) := by
  unfold impl_BusHeard_1.f
  rw [heardIs_eq l t i hi]
  by_cases h : l[i].f4 ≤ t
  · rw [if_pos h, decide_eq_true h, Bool.true_and]
    rw [iPlaces _ (cl l i) l hl (fun j hj => by rw [iClash, cl_eq l i j hi hj]) k hk, Option.bind_some]
    unfold aloneIs
    congr 1
    rw [Bool.eq_iff_iff, beq_iff_eq, beq_iff_eq]
    omega
  · rw [if_neg h, decide_eq_false h, Bool.false_and]
theorem iBusHeard (l : List Fr) (t : Int) (hl : l.length ≤ 1048576) (k : Nat) (hk : 1050000 ≤ k) : impl_BusHeard.f k l t = some (busHeard l t) := by
  unfold impl_BusHeard.f busHeard
  rw [iBusOk l hl k (by omega), Option.bind_some]
  cases h : busOk l with
  | true =>
    rw [if_pos rfl, if_pos rfl]
    exact iPlaces _ (heardIs l t) l hl (fun i hi => iHeard1 l t hl i hi k (by omega)) k (by omega)
  | false => rw [if_neg (by decide), if_neg (by decide)]
theorem frOk_get {l : List Fr} (h : busOk l = true) (i : Nat) (hi : i < l.length) : l[i].f3 < l[i].f4 := by
  unfold busOk at h
  rw [Bool.and_eq_true, List.all_eq_true] at h
  have h := h.1 i (List.mem_range.2 hi)
  unfold frOk at h
  rw [List.getElem?_eq_getElem hi] at h
  simp only [Bool.and_eq_true] at h
  have h := h.1
  unfold frameOk at h
  simp only [Bool.and_eq_true, decide_eq_true_eq] at h
  omega
theorem cl_self {l : List Fr} (h : busOk l = true) (i : Nat) (hi : i < l.length) : cl l i i = true := by
  have := frOk_get h i hi
  rw [cl_eq l i i hi hi, decide_eq_true this]; rfl
theorem and255 (n : Int) : Go.bits .and .i64 n 255 = n % 256 := by
  have h : (BitVec.ofInt 64 255).toNat = 2 ^ 8 - 1 := by decide
  have key : (BitVec.ofInt 64 n &&& BitVec.ofInt 64 255).toNat = (n % ((2 ^ 64 : Nat) : Int)).toNat % 2 ^ 8 := by
    rw [BitVec.toNat_and, BitVec.toNat_ofInt, h, Nat.and_two_pow_sub_one_eq_mod]
  show IntKind.i64.wrap ((BitVec.ofInt 64 n &&& BitVec.ofInt 64 255).toNat : Nat) = n % 256
  rw [key, IntKind.wrap_i64]
  omega
def At (s : List Int) (p : Int) : Prop := 0 ≤ p ∧ p ≤ s.length ∧ s.length ≤ 1048576
theorem dByte (s : List Int) (p z : Int) (h : At s p) : ∃ b p' z', spec_l1Byte.f s p z = some (b, p', z') ∧ At s p' ∧ 0 ≤ b ∧ b ≤ 255 := by
  unfold At at *
  unfold spec_l1Byte.f
  by_cases hp : p < (s.length : Int)
  · rw [if_pos hp, if_pos h.1, and255]
    refine ⟨_, _, _, rfl, ⟨?_, ?_, h.2.2⟩, Int.emod_nonneg _ (by omega), by have := Int.emod_lt_of_pos (wrap64 (Go.bits .and .i64 (Go.bits .xor .i64 (wrap64 (wrap64 (z * 6364136223846793005) + 1442695040888963407) / 8589934592) (wrap64 (wrap64 (z * 6364136223846793005) + 1442695040888963407) / 35184372088832)) 255 + wrap64 (rd s p))) (show (0 : Int) < 256 by omega); omega⟩
    · rw [wrap_id (by omega) (by omega)]; omega
    · rw [wrap_id (by omega) (by omega)]; omega
  · rw [if_neg hp, and255]
    refine ⟨_, _, _, rfl, h, Int.emod_nonneg _ (by omega), by have := Int.emod_lt_of_pos (Go.bits .xor .i64 (wrap64 (wrap64 (z * 6364136223846793005) + 1442695040888963407) / 8589934592) (wrap64 (wrap64 (z * 6364136223846793005) + 1442695040888963407) / 35184372088832)) (show (0 : Int) < 256 by omega); omega⟩
theorem dBelow (s : List Int) (p z n : Int) (h : At s p) : ∃ v p' z', spec_l1Below.f s p z n = some (v, p', z') ∧ At s p' ∧ 0 ≤ v ∧ (0 < n → v < n) := by
  unfold spec_l1Below.f
  by_cases h0 : n ≤ 0
  · rw [if_pos h0]; exact ⟨0, p, z, rfl, h, by omega, by omega⟩
  rw [if_neg h0]
  by_cases h1 : n ≤ 256
  · rw [if_pos h1]
    obtain ⟨b, p1, z1, e1, a1, b1, b2⟩ := dByte s p z h
    rw [e1]; simp only [Option.bind_some]
    rw [if_neg (by omega)]
    exact ⟨_, _, _, rfl, a1, Int.tmod_nonneg _ b1, fun _ => Int.tmod_lt_of_pos _ (by omega)⟩
  · rw [if_neg h1]
    obtain ⟨b, p1, z1, e1, a1, b1, b2⟩ := dByte s p z h
    rw [e1]; simp only [Option.bind_some]
    obtain ⟨c, p2, z2, e2, a2, c1, c2⟩ := dByte s p1 z1 a1
    rw [e2]; simp only [Option.bind_some]
    obtain ⟨d, p3, z3, e3, a3, d1, d2⟩ := dByte s p2 z2 a2
    rw [e3]; simp only [Option.bind_some]
    obtain ⟨e, p4, z4, e4, a4, f1, f2⟩ := dByte s p3 z3 a3
    rw [e4]; simp only [Option.bind_some]
    rw [if_neg (by omega), wrap_id (x := b * 16777216) (by omega) (by omega), wrap_id (x := c * 65536) (by omega) (by omega), wrap_id (x := d * 256) (by omega) (by omega), wrap_id (x := b * 16777216 + c * 65536) (by omega) (by omega), wrap_id (x := b * 16777216 + c * 65536 + d * 256) (by omega) (by omega), wrap_id (x := b * 16777216 + c * 65536 + d * 256 + e) (by omega) (by omega)]
    exact ⟨_, _, _, rfl, a4, Int.tmod_nonneg _ (by omega), fun _ => Int.tmod_lt_of_pos _ (by omega)⟩
theorem dPick (s : List Int) (p z : Int) (xs : List Int) (h : At s p) (hx : xs ≠ []) (hl : xs.length ≤ 256) : ∃ v p' z', spec_l1PickInt.f s p z xs = some (v, p', z') ∧ At s p' ∧ v ∈ xs := by
  unfold spec_l1PickInt.f
  have hn : 0 < xs.length := List.length_pos_iff.2 hx
  obtain ⟨v, p1, z1, e1, a1, b1, b2⟩ := dBelow s p z (xs.length : Int) h
  rw [e1]; simp only [Option.bind_some]
  have hv := b2 (by omega)
  rw [if_pos b1, if_pos hv]
  obtain ⟨i, rfl⟩ := Int.eq_ofNat_of_zero_le b1
  have hi : i < xs.length := by omega
  refine ⟨_, _, _, rfl, a1, ?_⟩
  have : rd xs (i : Int) = xs[i] := by unfold rd; simp [List.getD, hi]
  rw [this]; exact List.getElem_mem hi
theorem dOnce (s : List Int) (p z n : Int) (h : At s p) : ∃ v p' z', spec_l1Once.f s p z n = some (v, p', z') ∧ At s p' := by
  unfold spec_l1Once.f
  obtain ⟨v, p1, z1, e1, a1, b1, b2⟩ := dBelow s p z n h
  rw [e1]; exact ⟨_, _, _, rfl, a1⟩
theorem dNew (s : List Int) (hs : s.length ≤ 1048576) (k : Nat) (hk : 4100 < k) : ∃ z, spec_l1New.f k s = some (s, 0, z) ∧ At s 0 := by
  unfold spec_l1New.f
  have : ∀ (d i k : Nat) (z : Int), i + d = 4000 → d < k → ∃ z', spec_l1New.l0 k s z (i : Int) = some (s, 0, z') := by
    intro d
    induction d with
    | zero =>
      intro i k z hi hk
      obtain ⟨k, rfl⟩ : ∃ j, k = j + 1 := ⟨k - 1, by omega⟩
      simp only [spec_l1New.l0]
      obtain rfl : i = 4000 := by omega
      split
      · exact ⟨_, by rw [if_neg (by omega)]⟩
      · exact ⟨_, rfl⟩
    | succ d ih =>
      intro i k z hi hk
      obtain ⟨k, rfl⟩ : ∃ j, k = j + 1 := ⟨k - 1, by omega⟩
      simp only [spec_l1New.l0]
      split
      · rw [if_pos (by omega), if_pos (by omega), wrap_succ (n := 4000) (by omega) (by omega)]
        exact ih (i + 1) k _ (by omega) (by omega)
      · exact ⟨_, rfl⟩
  obtain ⟨z, h⟩ := this 4000 0 k (wrap64 (72072 + (s.length : Int))) (by omega) (by omega)
  exact ⟨z, h, by unfold At; omega⟩
end Go.Proofs.Ytjlmfnpgcmmdnaa.C
namespace Go.Proofs.Ytjlmfnpgcmmdnaa.P
open Go.RowKit Go.Proofs.YtjlmfnpgcmmdnaaW.PrintWords Go.Proofs.YtjlmfnpgcmmdnaaW.PrintLast Go.Proofs.YtjlmfnpgcmmdnaaW.PrintMore
attribute [local go_sem] max2_int min2_int max_two min_two max_three min_three max_four min_four
set_option linter.unusedVariables false
set_option linter.unusedSimpArgs false
end Go.Proofs.Ytjlmfnpgcmmdnaa.P

