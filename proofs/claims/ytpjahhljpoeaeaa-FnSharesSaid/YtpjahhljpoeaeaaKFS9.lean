/- Texts of the seat's proofs, part 9: functions of the program told as plain functions, with their contracts, and what is shown of them. No condition. -/
import Derived.Test.YtpjahhljpoeaeaaUKFS
import Derived.Test.YtpjahhljpoeaeaaKFS1
import Derived.Test.YtpjahhljpoeaeaaKFS8
import Derived.Test.YtpjahhljpoeaeaaKFS7
import Derived.Test.YtpjahhljpoeaeaaKFS5
import Derived.Test.YtpjahhljpoeaeaaKFS2
import Derived.Test.YtpjahhljpoeaeaaKFS4
import Derived.Laws.Bits128
import Derived.Test.YtpjahhljpoeaeaaKFS3
set_option linter.unusedVariables false
set_option linter.unusedSimpArgs false
namespace Go.Proofs.Ytpjahhljpoeaeaa.P
open Go.RowKit Go.Proofs.YtpjahhljpoeaeaaW.PrintWords Go.Proofs.YtpjahhljpoeaeaaW.PrintLast Go.Proofs.YtpjahhljpoeaeaaW.PrintMore
attribute [local go_sem] max2_int min2_int max_two min_two max_three min_three max_four min_four
set_option linter.unusedVariables false
set_option linter.unusedSimpArgs false
end Go.Proofs.Ytpjahhljpoeaeaa.P

namespace Go.Proofs.Ytpjahhljpoeaeaa.P
open Go.RowKit Go.Proofs.YtpjahhljpoeaeaaW.PrintWords Go.Proofs.YtpjahhljpoeaeaaW.PrintLast Go.Proofs.YtpjahhljpoeaeaaW.PrintMore
attribute [local go_sem] max2_int min2_int max_two min_two max_three min_three max_four min_four
set_option linter.unusedVariables false
set_option linter.unusedSimpArgs false
end Go.Proofs.Ytpjahhljpoeaeaa.P

namespace Go.Proofs.Ytpjahhljpoeaeaa.P
open Go.RowKit Go.Proofs.YtpjahhljpoeaeaaW.PrintWords Go.Proofs.YtpjahhljpoeaeaaW.PrintLast Go.Proofs.YtpjahhljpoeaeaaW.PrintMore
attribute [local go_sem] max2_int min2_int max_two min_two max_three min_three max_four min_four
set_option linter.unusedVariables false
set_option linter.unusedSimpArgs false
end Go.Proofs.Ytpjahhljpoeaeaa.P

namespace Go.Proofs.Ytpjahhljpoeaeaa.P
open Go.RowKit Go.Proofs.YtpjahhljpoeaeaaW.PrintWords Go.Proofs.YtpjahhljpoeaeaaW.PrintLast Go.Proofs.YtpjahhljpoeaeaaW.PrintMore
attribute [local go_sem] max2_int min2_int max_two min_two max_three min_three max_four min_four
set_option linter.unusedVariables false
set_option linter.unusedSimpArgs false
end Go.Proofs.Ytpjahhljpoeaeaa.P

namespace Go.Proofs.Ytpjahhljpoeaeaa.P
open Go.RowKit Go.Proofs.YtpjahhljpoeaeaaW.PrintWords Go.Proofs.YtpjahhljpoeaeaaW.PrintLast Go.Proofs.YtpjahhljpoeaeaaW.PrintMore
attribute [local go_sem] max2_int min2_int max_two min_two max_three min_three max_four min_four
set_option linter.unusedVariables false
set_option linter.unusedSimpArgs false
end Go.Proofs.Ytpjahhljpoeaeaa.P

namespace Go.Proofs.Ytpjahhljpoeaeaa.P
open Go.RowKit Go.Proofs.YtpjahhljpoeaeaaW.PrintWords Go.Proofs.YtpjahhljpoeaeaaW.PrintLast Go.Proofs.YtpjahhljpoeaeaaW.PrintMore
attribute [local go_sem] max2_int min2_int max_two min_two max_three min_three max_four min_four
set_option linter.unusedVariables false
set_option linter.unusedSimpArgs false
end Go.Proofs.Ytpjahhljpoeaeaa.P

namespace Go.Proofs.Ytpjahhljpoeaeaa.C
open Go.RowKit Go.Proofs.Ytpjahhljpoeaeaa.P Go.Proofs.Ytpjahhljpoeaeaa.G Go.Proofs.YtpjahhljpoeaeaaW.PrintWords
def hasI (xs : List Int) (v : Int) : Bool := found (fun i => xs[i]? == some v) (fun _ => true) false (List.range xs.length)
end Go.Proofs.Ytpjahhljpoeaeaa.C
namespace Go.Proofs.Ytpjahhljpoeaeaa.P
open Go.RowKit Go.Proofs.YtpjahhljpoeaeaaW.PrintWords Go.Proofs.YtpjahhljpoeaeaaW.PrintLast Go.Proofs.YtpjahhljpoeaeaaW.PrintMore
attribute [local go_sem] max2_int min2_int max_two min_two max_three min_three max_four min_four
set_option linter.unusedVariables false
set_option linter.unusedSimpArgs false
end Go.Proofs.Ytpjahhljpoeaeaa.P

namespace Go.Proofs.Ytpjahhljpoeaeaa.P
open Go.RowKit Go.Proofs.YtpjahhljpoeaeaaW.PrintWords Go.Proofs.YtpjahhljpoeaeaaW.PrintLast Go.Proofs.YtpjahhljpoeaeaaW.PrintMore
attribute [local go_sem] max2_int min2_int max_two min_two max_three min_three max_four min_four
set_option linter.unusedVariables false
set_option linter.unusedSimpArgs false
end Go.Proofs.Ytpjahhljpoeaeaa.P

namespace Go.Proofs.Ytpjahhljpoeaeaa.P
open Go.RowKit Go.Proofs.YtpjahhljpoeaeaaW.PrintWords Go.Proofs.YtpjahhljpoeaeaaW.PrintLast Go.Proofs.YtpjahhljpoeaeaaW.PrintMore
attribute [local go_sem] max2_int min2_int max_two min_two max_three min_three max_four min_four
set_option linter.unusedVariables false
set_option linter.unusedSimpArgs false
end Go.Proofs.Ytpjahhljpoeaeaa.P

namespace Go.Proofs.Ytpjahhljpoeaeaa.C
open Go.RowKit Go.Proofs.Ytpjahhljpoeaeaa.P Go.Proofs.Ytpjahhljpoeaeaa.G Go.Proofs.YtpjahhljpoeaeaaW.PrintWords
def owns (l : List Sl) : List Int := l.map fun x => x.f0
theorem mem_owns {l : List Sl} {x : Int} : x ∈ owns l ↔ ∃ i, ∃ hi : i < l.length, l[i].f0 = x := by
  unfold owns
  rw [List.mem_map]
  constructor
  · rintro ⟨y, hy, rfl⟩
    obtain ⟨i, hi, rfl⟩ := List.getElem_of_mem hy
    exact ⟨i, hi, rfl⟩
  · rintro ⟨i, hi, rfl⟩
    exact ⟨_, List.getElem_mem hi, rfl⟩
def ownersOf (st gap : Int) (l : List Sl) : List Int := if planOk st gap l = true then below8 (fun n => decide (n ∈ owns l)) else []
theorem ownersOf_len (st gap : Int) (l : List Sl) : (ownersOf st gap l).length ≤ 8 := by
  unfold ownersOf; split
  · exact below8_len _
  · simp
theorem iOwnersOf (st gap : Int) (l : List Sl) (hl : l.length ≤ 1048576) (k : Nat) (hk : 1050000 ≤ k) : impl_OwnersOf.f k st gap l = some (ownersOf st gap l) := by
  unfold impl_OwnersOf.f ownersOf
  rw [iPlanOk st gap l hl k (by omega), Option.bind_some]
  cases h : planOk st gap l with
  | false => rw [if_neg (by decide), if_neg (by decide)]
  | true =>
    rw [if_pos rfl, if_pos rfl]
    rw [planOk_iff] at h
    have hsc := fun k hk => sort_compact (owns l) (by simp [owns]; omega) (fun x hx => by
      obtain ⟨i, hi, rfl⟩ := mem_owns.1 hx
      have := slotsOk_get h.2.2.2 i hi
      omega) k hk
    have := track_loop0 (n := l.length) (c := 1000) (σ := List Int) (F := fun i => (l.take i).map fun x => x.f0) (L := fun k s i => impl_OwnersOf.l0 k s l (l.length : Int) i) (r := below8 fun n => decide (n ∈ owns l)) (fun k i hi hk => ?_) (fun k hk => ?_) k (by omega)
    · simpa using this
    · simp only [impl_OwnersOf.l0]
      have hlen : ((l.take i).map fun x => x.f0).length = i := by simp; omega
      rw [if_pos (by omega), if_pos (by omega), if_pos (by omega), if_pos (by omega), wrap_succ hi (by omega), rdSl l i hi, List.take_succ_eq_append_getElem hi, List.map_append]
      rfl
    · simp only [impl_OwnersOf.l0]
      rw [if_neg (by omega), List.take_length]
      exact hsc k (by omega)
theorem hasI_iff (xs : List Int) (v : Int) : hasI xs v = true ↔ v ∈ xs := by
  unfold hasI
  rcases first_of (Q := fun i => xs[i]? == some v) xs.length with ⟨j, h1, h2, h3⟩ | h1
  · rw [found_some h1 h2 h3]
    simp only [beq_iff_eq] at h2
    exact ⟨fun _ => List.mem_of_getElem? h2, fun _ => rfl⟩
  · rw [found_none h1]
    constructor
    · intro h; cases h
    · intro h
      obtain ⟨i, hi, e⟩ := List.getElem_of_mem h
      have := h1 i hi
      rw [List.getElem?_eq_getElem hi, e] at this
      simp at this
end Go.Proofs.Ytpjahhljpoeaeaa.C
namespace Go.Proofs.Ytpjahhljpoeaeaa.P
open Go.RowKit Go.Proofs.YtpjahhljpoeaeaaW.PrintWords Go.Proofs.YtpjahhljpoeaeaaW.PrintLast Go.Proofs.YtpjahhljpoeaeaaW.PrintMore
attribute [local go_sem] max2_int min2_int max_two min_two max_three min_three max_four min_four
set_option linter.unusedVariables false
set_option linter.unusedSimpArgs false
end Go.Proofs.Ytpjahhljpoeaeaa.P

namespace Go.Proofs.Ytpjahhljpoeaeaa.P
open Go.RowKit Go.Proofs.YtpjahhljpoeaeaaW.PrintWords Go.Proofs.YtpjahhljpoeaeaaW.PrintLast Go.Proofs.YtpjahhljpoeaeaaW.PrintMore
attribute [local go_sem] max2_int min2_int max_two min_two max_three min_three max_four min_four
set_option linter.unusedVariables false
set_option linter.unusedSimpArgs false
end Go.Proofs.Ytpjahhljpoeaeaa.P

set_option linter.unusedVariables false
set_option linter.unusedSimpArgs false
namespace Go.Proofs.Ytpjahhljpoeaeaa.C
open Go.RowKit Go.Proofs.Ytpjahhljpoeaeaa.P Go.Proofs.Ytpjahhljpoeaeaa.G
end Go.Proofs.Ytpjahhljpoeaeaa.C

namespace Go.Proofs.Ytpjahhljpoeaeaa.C
open Go.RowKit Go.Proofs.Ytpjahhljpoeaeaa.P Go.Proofs.Ytpjahhljpoeaeaa.G
def uptoL (gap : Int) : List Sl → Int
  | [] => 0
  | x :: xs => x.f1 + gap + uptoL gap xs
theorem uptoL_append (gap : Int) (a b : List Sl) : uptoL gap (a ++ b) = uptoL gap a + uptoL gap b := by
  induction a with
  | nil => simp [uptoL]
  | cons x xs ih => simp only [List.cons_append, uptoL, ih]; omega
def upto (gap : Int) (l : List Sl) (n : Nat) : Int := uptoL gap (l.take n)
theorem upto_zero (gap : Int) (l : List Sl) : upto gap l 0 = 0 := rfl
theorem upto_succ (gap : Int) (l : List Sl) (i : Nat) (h : i < l.length) : upto gap l (i + 1) = upto gap l i + (l[i].f1 + gap) := by
  unfold upto; rw [List.take_succ_eq_append_getElem h, uptoL_append]; simp [uptoL]
def round (gap : Int) (l : List Sl) : Int := upto gap l l.length
theorem upto_bd {st gap : Int} {l : List Sl} (h : planOk st gap l = true) : ∀ n, n ≤ l.length → (n : Int) ≤ upto gap l n ∧ upto gap l n ≤ 1100000 * n := by
  rw [planOk_iff] at h
  intro n
  induction n with
  | zero => intro _; rw [upto_zero]; omega
  | succ n ih =>
    intro hn
    have h1 := ih (by omega)
    have h2 := slotsOk_get h.2.2.2 n (by omega)
    rw [upto_succ gap l n (by omega)]
    omega
theorem round_bd {st gap : Int} {l : List Sl} (h : planOk st gap l = true) : 1 ≤ round gap l ∧ round gap l ≤ 13200000 := by
  have h1 := upto_bd h l.length (Nat.le_refl _)
  rw [planOk_iff] at h
  unfold round; omega
theorem iFrom {st gap : Int} {l : List Sl} (h : planOk st gap l = true) (n : Nat) (hn : n ≤ l.length) (k : Nat) (hk : 20 ≤ k) : impl_Plan_from.f k st gap l (n : Int) = some (upto gap l n) := by
  have h' := h
  rw [planOk_iff] at h'
  unfold impl_Plan_from.f
  rw [if_pos (by omega), if_pos (by omega)]
  simp only [Option.bind_some, Int.toNat_natCast]
  have hy : (l.take n).length = n := by simp; omega
  rw [hy]
  refine track_loop0 (n := n) (c := 0) (L := fun k s i => impl_Plan_from.l0 k s (l.take n) (n : Int) i st gap l) (F := fun i => upto gap l i) (fun k i hi _ => ?_) (fun k _ => ?_) k (by omega)
  · simp only [impl_Plan_from.l0]
    have hb := upto_bd h i (by omega)
    have hs := slotsOk_get h'.2.2.2 i (by omega)
    rw [if_pos (by omega), if_pos (by omega), if_pos (by omega), wrap_succ hi (by omega), rdSl (l.take n) i (by omega), List.getElem_take, upto_succ gap l i (by omega), wrap_id (x := l[i].f1 + gap) (by omega) (by omega), wrap_id (by omega) (by omega)]
  · simp only [impl_Plan_from.l0]
    rw [if_neg (by omega)]
theorem iRound {st gap : Int} {l : List Sl} (h : planOk st gap l = true) (k : Nat) (hk : 20 ≤ k) : impl_Plan_round.f k st gap l = some (round gap l) := by
  unfold impl_Plan_round.f; rw [iFrom h l.length (Nat.le_refl _) k hk]; rfl
def roundOf (st gap : Int) (l : List Sl) : Int := if planOk st gap l = true then round gap l else 0
theorem iRoundOf (st gap : Int) (l : List Sl) (hl : l.length ≤ 1048576) (k : Nat) (hk : 1050000 ≤ k) : impl_RoundOf.f k st gap l = some (roundOf st gap l) := by
  unfold impl_RoundOf.f roundOf; rw [iPlanOk st gap l hl k (by omega)]
  simp only [Option.bind_some]
  cases h : planOk st gap l with
  | false => rfl
  | true => rw [if_pos rfl, iRound h k (by omega)]; rfl
end Go.Proofs.Ytpjahhljpoeaeaa.C
namespace Go.Proofs.Ytpjahhljpoeaeaa.C
open Go.RowKit Go.Proofs.Ytpjahhljpoeaeaa.P Go.Proofs.Ytpjahhljpoeaeaa.G Go.Proofs.YtpjahhljpoeaeaaW.PrintWords
theorem gcdL {L : Nat → Int → Int → Option Int} (h0 : ∀ k (a : Nat), L (k + 1) (a : Int) 0 = some (a : Int)) (h1 : ∀ k (a b : Nat), b ≠ 0 → L (k + 1) (a : Int) (b : Int) = L k (b : Int) ((a % b : Nat) : Int)) :
    ∀ k (b a : Nat), b < k → L k (a : Int) (b : Int) = some ((Nat.gcd a b : Nat) : Int) := by
  intro k
  induction k with
  | zero => intro b a h; omega
  | succ k ih =>
    intro b a h
    by_cases hb : b = 0
    · subst hb; rw [Nat.gcd_zero_right]; exact h0 k a
    · rw [h1 k a b hb, ih (a % b) b (by have := Nat.mod_lt a (Nat.pos_of_ne_zero hb); omega), Nat.gcd_comm b, ← Nat.gcd_rec, Nat.gcd_comm]
theorem iGcd (k a b : Nat) (hb : b < k) : impl_gcd.f k (a : Int) (b : Int) = some ((Nat.gcd a b : Nat) : Int) := by
  unfold impl_gcd.f
  refine gcdL (fun k a => ?_) (fun k a b hb => ?_) k b a hb
  · simp only [impl_gcd.l0]; rw [if_pos (by trivial)]
  · simp only [impl_gcd.l0]; rw [if_neg (by omega), Int.tmod_eq_emod_of_nonneg (by omega)]; rfl
def frac (a b : Nat) : Int × Int × Bool := (((a / Nat.gcd a b : Nat) : Int), ((b / Nat.gcd a b : Nat) : Int), true)
theorem tdiv_nat (a b : Nat) (h : a ≤ 4000000000000) : wrap64 (Int.tdiv (a : Int) (b : Int)) = ((a / b : Nat) : Int) := by
  rw [Int.tdiv_eq_ediv_of_nonneg (by omega), ← Int.natCast_ediv]
  have := Nat.div_le_self a b
  generalize a / b = q at this ⊢
  exact wrap_id (by omega) (by omega)
theorem iFracOf (a b : Nat) (ha : a ≤ 4000000000000) (hb : 1 ≤ b ∧ b ≤ 4000000000000) (k : Nat) (hk : b + 1 < k) : impl_FracOf.f k (a : Int) (b : Int) = some (frac a b) := by
  obtain ⟨k, rfl⟩ : ∃ j, k = j + 1 := ⟨k - 1, by omega⟩
  have hg : Nat.gcd a b ≠ 0 := by have := Nat.gcd_pos_of_pos_right a hb.1; omega
  unfold impl_FracOf.f
  rw [if_neg (by omega)]
  simp only [in_, Option.bind_some]
  rw [decide_eq_true (by omega), if_pos (by trivial), decide_eq_true (by omega)]
  simp only [impl_FracOf.j0]
  rw [Bool.not_true, if_neg (by decide), if_neg (by omega)]
  have hs : impl_size.f (a : Int) = some (a : Int) := by
    unfold impl_size.f mx; rw [wrap_id (by omega) (by omega)]; congr 1; split <;> omega
  rw [hs]
  simp only [Option.bind_some]
  rw [iGcd k a b (by omega)]
  simp only [Option.bind_some]
  rw [if_neg (by omega), tdiv_nat _ _ ha, tdiv_nat _ _ hb.2]; rfl
def ownSum (own : Int) (l : List Sl) : Nat → Int
  | 0 => 0
  | i + 1 => match l[i]? with
    | some x => if x.f0 = own then ownSum own l i + x.f1 else ownSum own l i
    | none => ownSum own l i
theorem ownSum_succ (own : Int) (l : List Sl) (i : Nat) (h : i < l.length) : ownSum own l (i + 1) = if l[i].f0 = own then ownSum own l i + l[i].f1 else ownSum own l i := by
  rw [ownSum, List.getElem?_eq_getElem h]
theorem ownSum_bd {own : Int} {l : List Sl} (h : slotsOk l = true) : ∀ n, n ≤ l.length → 0 ≤ ownSum own l n ∧ ownSum own l n ≤ 1000000 * n := by
  intro n
  induction n with
  | zero => intro _; unfold ownSum; omega
  | succ n ih =>
    intro hn
    have h1 := ih (by omega)
    have h2 := slotsOk_get h n (by omega)
    rw [ownSum_succ own l n (by omega)]
    split <;> omega
def shareOf (st gap : Int) (l : List Sl) (own : Int) : Int × Int × Bool := if planOk st gap l = true then frac (ownSum own l l.length).toNat (round gap l).toNat else (0, 0, false)
theorem iShareOf (st gap : Int) (l : List Sl) (hl : l.length ≤ 1048576) (own : Int) (k : Nat) (hk : 13300000 ≤ k) : impl_ShareOf.f k st gap l own = some (shareOf st gap l own) := by
  unfold impl_ShareOf.f shareOf
  rw [iPlanOk st gap l hl k (by omega)]
  simp only [Option.bind_some]
  cases h : planOk st gap l with
  | false => rfl
  | true =>
    have h' := h
    rw [planOk_iff] at h'
    rw [if_pos (by trivial), if_pos (by trivial)]
    refine track_loop0 (n := l.length) (c := 13200010) (L := fun k s i => impl_ShareOf.l0 k own s l (l.length : Int) i st gap l) (F := fun i => ownSum own l i) (fun k i hi _ => ?_) (fun k hk => ?_) k (by omega)
    · simp only [impl_ShareOf.l0]
      have hb := ownSum_bd (own := own) h'.2.2.2 i (by omega)
      have h2 := slotsOk_get h'.2.2.2 i hi
      rw [if_pos (by omega), if_pos (by omega), if_pos (by omega), wrap_succ hi (by omega), rdSl l i hi, ownSum_succ own l i hi]
      split
      · rw [wrap_id (by omega) (by omega)]
      · rfl
    · simp only [impl_ShareOf.l0]
      have hb := ownSum_bd (own := own) h'.2.2.2 l.length (Nat.le_refl _)
      have hr := round_bd h
      rw [if_neg (by omega), iRound h _ (by omega)]
      simp only [Option.bind_some]
      have e1 : ownSum own l l.length = ((ownSum own l l.length).toNat : Int) := by omega
      have e2 : round gap l = ((round gap l).toNat : Int) := by omega
      rw [e1, e2, iFracOf _ _ (by omega) (by omega) _ (by omega)]
      simp only [Int.toNat_natCast, Option.bind_some]
theorem and255 (n : Int) : Go.bits .and .i64 n 255 = n % 256 := by
  have h : (BitVec.ofInt 64 255).toNat = 2 ^ 8 - 1 := by decide
  have key : (BitVec.ofInt 64 n &&& BitVec.ofInt 64 255).toNat = (n % ((2 ^ 64 : Nat) : Int)).toNat % 2 ^ 8 := by
    rw [BitVec.toNat_and, BitVec.toNat_ofInt, h, Nat.and_two_pow_sub_one_eq_mod]
  show IntKind.i64.wrap ((BitVec.ofInt 64 n &&& BitVec.ofInt 64 255).toNat : Nat) = n % 256
  rw [key, IntKind.wrap_i64]
  omega
def At (s : List Int) (p : Int) : Prop := 0 ≤ p ∧ p ≤ s.length ∧ s.length ≤ 1048576
theorem dByte (s : List Int) (p z : Int) (h : At s p) : ∃ b p' z', spec_l1Byte.f s p z = some (b, p', z') ∧ At s p' ∧ 0 ≤ b ∧ b ≤ 255 := by
  unfold At at *
  unfold spec_l1Byte.f
  by_cases hp : p < (s.length : Int)
  · rw [if_pos hp, if_pos h.1, and255]
    refine ⟨_, _, _, rfl, ⟨?_, ?_, h.2.2⟩, Int.emod_nonneg _ (by omega), by have := Int.emod_lt_of_pos (wrap64 (Go.bits .and .i64 (Go.bits .xor .i64 (wrap64 (wrap64 (z * 6364136223846793005) + 1442695040888963407) / 8589934592) (wrap64 (wrap64 (z * 6364136223846793005) + 1442695040888963407) / 35184372088832)) 255 + wrap64 (rd s p))) (show (0 : Int) < 256 by omega); omega⟩
    · rw [wrap_id (by omega) (by omega)]; omega
    · rw [wrap_id (by omega) (by omega)]; omega
  · rw [if_neg hp, and255]
    refine ⟨_, _, _, rfl, h, Int.emod_nonneg _ (by omega), by have := Int.emod_lt_of_pos (Go.bits .xor .i64 (wrap64 (wrap64 (z * 6364136223846793005) + 1442695040888963407) / 8589934592) (wrap64 (wrap64 (z * 6364136223846793005) + 1442695040888963407) / 35184372088832)) (show (0 : Int) < 256 by omega); omega⟩
theorem dBelow (s : List Int) (p z n : Int) (h : At s p) : ∃ v p' z', spec_l1Below.f s p z n = some (v, p', z') ∧ At s p' ∧ 0 ≤ v ∧ (0 < n → v < n) := by
  unfold spec_l1Below.f
  by_cases h0 : n ≤ 0
  · rw [if_pos h0]; exact ⟨0, p, z, rfl, h, by omega, by omega⟩
  rw [if_neg h0]
  by_cases h1 : n ≤ 256
  · rw [if_pos h1]
    obtain ⟨b, p1, z1, e1, a1, b1, b2⟩ := dByte s p z h
    rw [e1]; simp only [Option.bind_some]
    rw [if_neg (by omega)]
    exact ⟨_, _, _, rfl, a1, Int.tmod_nonneg _ b1, fun _ => Int.tmod_lt_of_pos _ (by omega)⟩
  · rw [if_neg h1]
    obtain ⟨b, p1, z1, e1, a1, b1, b2⟩ := dByte s p z h
    rw [e1]; simp only [Option.bind_some]
    obtain ⟨c, p2, z2, e2, a2, c1, c2⟩ := dByte s p1 z1 a1
    rw [e2]; simp only [Option.bind_some]
    obtain ⟨d, p3, z3, e3, a3, d1, d2⟩ := dByte s p2 z2 a2
    rw [e3]; simp only [Option.bind_some]
    obtain ⟨e, p4, z4, e4, a4, f1, f2⟩ := dByte s p3 z3 a3
    rw [e4]; simp only [Option.bind_some]
    rw [if_neg (by omega), wrap_id (x := b * 16777216) (by omega) (by omega), wrap_id (x := c * 65536) (by omega) (by omega), wrap_id (x := d * 256) (by omega) (by omega), wrap_id (x := b * 16777216 + c * 65536) (by omega) (by omega), wrap_id (x := b * 16777216 + c * 65536 + d * 256) (by omega) (by omega), wrap_id (x := b * 16777216 + c * 65536 + d * 256 + e) (by omega) (by omega)]
    exact ⟨_, _, _, rfl, a4, Int.tmod_nonneg _ (by omega), fun _ => Int.tmod_lt_of_pos _ (by omega)⟩
theorem dPick (s : List Int) (p z : Int) (xs : List Int) (h : At s p) (hx : xs ≠ []) (hl : xs.length ≤ 256) : ∃ v p' z', spec_l1PickInt.f s p z xs = some (v, p', z') ∧ At s p' ∧ v ∈ xs := by
  unfold spec_l1PickInt.f
  have hn : 0 < xs.length := List.length_pos_iff.2 hx
  obtain ⟨v, p1, z1, e1, a1, b1, b2⟩ := dBelow s p z (xs.length : Int) h
  rw [e1]; simp only [Option.bind_some]
  have hv := b2 (by omega)
  rw [if_pos b1, if_pos hv]
  obtain ⟨i, rfl⟩ := Int.eq_ofNat_of_zero_le b1
  have hi : i < xs.length := by omega
  refine ⟨_, _, _, rfl, a1, ?_⟩
  have : rd xs (i : Int) = xs[i] := by unfold rd; simp [List.getD, hi]
  rw [this]; exact List.getElem_mem hi
theorem dOnce (s : List Int) (p z n : Int) (h : At s p) : ∃ v p' z', spec_l1Once.f s p z n = some (v, p', z') ∧ At s p' := by
  unfold spec_l1Once.f
  obtain ⟨v, p1, z1, e1, a1, b1, b2⟩ := dBelow s p z n h
  rw [e1]; exact ⟨_, _, _, rfl, a1⟩
theorem dNew (s : List Int) (hs : s.length ≤ 1048576) (k : Nat) (hk : 4100 < k) : ∃ z, spec_l1New.f k s = some (s, 0, z) ∧ At s 0 := by
  unfold spec_l1New.f
  have : ∀ (d i k : Nat) (z : Int), i + d = 4000 → d < k → ∃ z', spec_l1New.l0 k s z (i : Int) = some (s, 0, z') := by
    intro d
    induction d with
    | zero =>
      intro i k z hi hk
      obtain ⟨k, rfl⟩ : ∃ j, k = j + 1 := ⟨k - 1, by omega⟩
      simp only [spec_l1New.l0]
      obtain rfl : i = 4000 := by omega
      split
      · exact ⟨_, by rw [if_neg (by omega)]⟩
      · exact ⟨_, rfl⟩
    | succ d ih =>
      intro i k z hi hk
      obtain ⟨k, rfl⟩ : ∃ j, k = j + 1 := ⟨k - 1, by omega⟩
      simp only [spec_l1New.l0]
      split
      · rw [if_pos (by omega), if_pos (by omega), wrap_succ (n := 4000) (by omega) (by omega)]
        exact ih (i + 1) k _ (by omega) (by omega)
      · exact ⟨_, rfl⟩
  obtain ⟨z, h⟩ := this 4000 0 k (wrap64 (72072 + (s.length : Int))) (by omega) (by omega)
  exact ⟨z, h, by unfold At; omega⟩
theorem dCount (s : List Int) (p z : Int) (h : At s p) : ∃ v p' z', spec_l2DrawCount.f s p z = some (v, p', z') ∧ At s p' ∧ -1 ≤ v ∧ v ≤ 9223372036854775807 := by
  unfold spec_l2DrawCount.f
  obtain ⟨a, p1, z1, e1, a1, _, _⟩ := dBelow s p z 14 h
  rw [e1]; simp only [Option.bind_some]
  split
  · obtain ⟨v, p2, z2, e2, a2, hv⟩ := dPick s p1 z1 [(-1), 0, 1000000000000, 1000000000001, 500000000000, 666666666666, 9223372036854775807] a1 (by simp) (by simp)
    rw [e2]
    refine ⟨_, _, _, rfl, a2, ?_⟩
    simp at hv; omega
  · split
    · obtain ⟨v, p2, z2, e2, a2, h1, h2⟩ := dBelow s p1 z1 1000000000 a1
      rw [e2]
      have := h2 (by omega)
      refine ⟨_, _, _, rfl, a2, ?_⟩
      rw [wrap_id (by omega) (by omega)]; omega
    · split
      · obtain ⟨v, p2, z2, e2, a2, h1, h2⟩ := dBelow s p1 z1 6 a1
        rw [e2]
        have := h2 (by omega)
        exact ⟨_, _, _, rfl, a2, by omega⟩
      · obtain ⟨v, p2, z2, e2, a2, h1, h2⟩ := dBelow s p1 z1 5000 a1
        rw [e2]
        have := h2 (by omega)
        exact ⟨_, _, _, rfl, a2, by omega⟩
theorem dPlanL (s : List Int) (st gap : Int) (n : Nat) (hn : n ≤ 12) : ∀ d i k p z (l : List Sl), i + d = n → d < k → At s p → l.length = i → (∀ y ∈ l, 0 ≤ y.f0 ∧ y.f0 ≤ 3 ∧ 1 ≤ y.f1 ∧ y.f1 ≤ 60) →
    ∃ l' p' z', spec_l13DrawPlan.l0 k (n : Int) (i : Int) s p z st gap l = some (st, gap, l', p', z') ∧ At s p' ∧ l'.length = n ∧ ∀ y ∈ l', 0 ≤ y.f0 ∧ y.f0 ≤ 3 ∧ 1 ≤ y.f1 ∧ y.f1 ≤ 60 := by
  intro d
  induction d with
  | zero =>
    intro i k p z l hi hk h hl hy
    obtain ⟨k, rfl⟩ : ∃ j, k = j + 1 := ⟨k - 1, by omega⟩
    simp only [spec_l13DrawPlan.l0]
    rw [if_neg (by omega)]
    exact ⟨_, _, _, rfl, h, by omega, hy⟩
  | succ d ih =>
    intro i k p z l hi hk h hl hy
    obtain ⟨k, rfl⟩ : ∃ j, k = j + 1 := ⟨k - 1, by omega⟩
    simp only [spec_l13DrawPlan.l0]
    obtain ⟨a, p1, z1, e1, a1, b1, b2⟩ := dBelow s p z 4 h
    rw [if_pos (by omega), e1]; simp only [Option.bind_some]
    obtain ⟨b, p2, z2, e2, a2, c1, c2⟩ := dBelow s p1 z1 60 a1
    rw [e2]; simp only [Option.bind_some]
    have := b2 (by omega); have := c2 (by omega)
    rw [if_pos (by omega), wrap_succ (n := n) (by omega) (by omega), wrap_id (x := 1 + b) (by omega) (by omega)]
    refine ih (i + 1) k _ _ _ (by omega) (by omega) a2 (by simp; omega) (fun y hy2 => ?_)
    rw [List.mem_append] at hy2
    rcases hy2 with hy2 | hy2
    · exact hy y hy2
    · simp at hy2; subst hy2; simp only; omega
theorem dPlan (s : List Int) (p z : Int) (h : At s p) (k : Nat) (hk : 20 ≤ k) : ∃ st gap l p' z', spec_l13DrawPlan.f k s p z = some (st, gap, l, p', z') ∧ At s p' ∧ (1 ≤ l.length ∧ l.length ≤ 12) ∧ (0 ≤ st ∧ st ≤ 39) ∧ (0 ≤ gap ∧ gap ≤ 5) ∧ ∀ y ∈ l, 0 ≤ y.f0 ∧ y.f0 ≤ 3 ∧ 1 ≤ y.f1 ∧ y.f1 ≤ 60 := by
  obtain ⟨k, rfl⟩ : ∃ j, k = j + 1 := ⟨k - 1, by omega⟩
  unfold spec_l13DrawPlan.f
  obtain ⟨st, p1, z1, e1, a1, b1, b2⟩ := dBelow s p z 40 h
  rw [e1]; simp only [Option.bind_some]
  obtain ⟨gap, p2, z2, e2, a2, c1, c2⟩ := dBelow s p1 z1 6 a1
  rw [e2]; simp only [Option.bind_some]
  obtain ⟨n, p3, z3, e3, a3, d1, d2⟩ := dBelow s p2 z2 5 a2
  rw [e3]; simp only [Option.bind_some]
  obtain ⟨o, p4, z4, e4, a4⟩ := dOnce s p3 z3 20 a3
  rw [e4]; simp only [Option.bind_some, spec_l13DrawPlan.j0]
  have := b2 (by omega); have := c2 (by omega); have := d2 (by omega)
  have hP : ∀ m : Nat, 1 ≤ m → m ≤ 12 → ∃ l' p' z', spec_l13DrawPlan.l0 k (m : Int) 0 s p4 z4 st gap [] = some (st, gap, l', p', z') ∧ At s p' ∧ l'.length = m ∧ ∀ y ∈ l', 0 ≤ y.f0 ∧ y.f0 ≤ 3 ∧ 1 ≤ y.f1 ∧ y.f1 ≤ 60 := fun m h1 h2 => dPlanL s st gap m h2 m 0 k p4 z4 [] (by omega) (by omega) a4 rfl (fun y hy => by cases hy)
  split
  · obtain ⟨l, p5, z5, e5, a5, hl, hy⟩ := hP 12 (by omega) (by omega)
    exact ⟨_, _, _, _, _, e5, a5, by omega, by omega, by omega, hy⟩
  · rw [wrap_id (x := 1 + n) (by omega) (by omega)]
    obtain ⟨m, hm⟩ := Int.eq_ofNat_of_zero_le (show 0 ≤ 1 + n by omega)
    rw [hm]
    obtain ⟨l, p5, z5, e5, a5, hl, hy⟩ := hP m (by omega) (by omega)
    exact ⟨_, _, _, _, _, e5, a5, by omega, by omega, by omega, hy⟩
theorem dAnyL (s : List Int) (st gap p z : Int) : ∀ d k (l : List Sl), l.length + d = 13 → d < k → ∃ l', spec_l13DrawAny.l0 k s p z st gap l = some (st, gap, l', p, z) ∧ l'.length = 13 := by
  intro d
  induction d with
  | zero =>
    intro k l hl hk
    obtain ⟨k, rfl⟩ : ∃ j, k = j + 1 := ⟨k - 1, by omega⟩
    simp only [spec_l13DrawAny.l0]
    rw [if_neg (by omega)]; exact ⟨_, rfl, by omega⟩
  | succ d ih =>
    intro k l hl hk
    obtain ⟨k, rfl⟩ : ∃ j, k = j + 1 := ⟨k - 1, by omega⟩
    simp only [spec_l13DrawAny.l0]
    rw [if_pos (by omega), if_pos (by omega)]
    exact ih k _ (by simp; omega) (by omega)
theorem dAny (s : List Int) (p z : Int) (h : At s p) (k : Nat) (hk : 30 ≤ k) : ∃ st gap l p' z', spec_l13DrawAny.f k s p z = some (st, gap, l, p', z') ∧ At s p' ∧ l.length ≤ 13 := by
  unfold spec_l13DrawAny.f
  obtain ⟨st, gap, l, p1, z1, e1, a1, hl, _⟩ := dPlan s p z h k (by omega)
  rw [e1]; simp only [Option.bind_some]
  obtain ⟨v, p2, z2, e2, a2, _, _⟩ := dBelow s p1 z1 25 a1
  rw [e2]; simp only [Option.bind_some]
  split
  · obtain ⟨w, p3, z3, e3, a3, _⟩ := dCount s p2 z2 a2
    rw [e3]; exact ⟨_, _, _, _, _, rfl, a3, by omega⟩
  split
  · obtain ⟨w, p3, z3, e3, a3, _⟩ := dPick s p2 z2 [(-1), 100000, 100001] a2 (by simp) (by simp)
    rw [e3]; exact ⟨_, _, _, _, _, rfl, a3, by omega⟩
  split
  · obtain ⟨w, p3, z3, e3, a3, _⟩ := dPick s p2 z2 [(-1), 8, 7] a2 (by simp) (by simp)
    rw [e3]; simp only [Option.bind_some]; rw [if_pos (by omega)]; exact ⟨_, _, _, _, _, rfl, a3, by simp; omega⟩
  split
  · obtain ⟨w, p3, z3, e3, a3, _⟩ := dPick s p2 z2 [0, 1000000, 1000001] a2 (by simp) (by simp)
    rw [e3]; simp only [Option.bind_some]; rw [if_pos (by omega)]; exact ⟨_, _, _, _, _, rfl, a3, by simp; omega⟩
  split
  · exact ⟨_, _, _, _, _, rfl, a2, by simp⟩
  split
  · obtain ⟨l', e, hl'⟩ := dAnyL s st gap p2 z2 (13 - l.length) k l (by omega) (by omega)
    exact ⟨_, _, _, _, _, e, a2, by omega⟩
  · exact ⟨_, _, _, _, _, rfl, a2, by omega⟩
end Go.Proofs.Ytpjahhljpoeaeaa.C
namespace Go.Proofs.Ytpjahhljpoeaeaa.P
open Go.RowKit Go.Proofs.YtpjahhljpoeaeaaW.PrintWords Go.Proofs.YtpjahhljpoeaeaaW.PrintLast Go.Proofs.YtpjahhljpoeaeaaW.PrintMore
attribute [local go_sem] max2_int min2_int max_two min_two max_three min_three max_four min_four
set_option linter.unusedVariables false
set_option linter.unusedSimpArgs false
end Go.Proofs.Ytpjahhljpoeaeaa.P

namespace Go.Proofs.Ytpjahhljpoeaeaa.C
open Go.RowKit Go.Proofs.Ytpjahhljpoeaeaa.P Go.Proofs.Ytpjahhljpoeaeaa.G Go.Proofs.YtpjahhljpoeaeaaW.PrintWords
theorem dBig (s : List Int) : laws_big.f s = some (decide ((s.length : Int) > 1048576)) := rfl
end Go.Proofs.Ytpjahhljpoeaeaa.C
