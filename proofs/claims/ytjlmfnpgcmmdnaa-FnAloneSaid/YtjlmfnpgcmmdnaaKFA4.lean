/- Texts of the seat's proofs, part 4: functions of the program told as plain functions, with their contracts, and what is shown of them. No condition. -/
import Derived.Test.YtjlmfnpgcmmdnaaUKFA
import Derived.Test.YtjlmfnpgcmmdnaaKFA1
import Derived.Test.YtjlmfnpgcmmdnaaKFA2
import Derived.Test.YtjlmfnpgcmmdnaaKFA3
set_option linter.unusedVariables false
set_option linter.unusedSimpArgs false
namespace Go.Proofs.Ytjlmfnpgcmmdnaa.P
open Go.RowKit Go.Proofs.YtjlmfnpgcmmdnaaW.PrintWords Go.Proofs.YtjlmfnpgcmmdnaaW.PrintLast Go.Proofs.YtjlmfnpgcmmdnaaW.PrintMore
attribute [local go_sem] max2_int min2_int max_two min_two max_three min_three max_four min_four
set_option linter.unusedVariables false
set_option linter.unusedSimpArgs false
end Go.Proofs.Ytjlmfnpgcmmdnaa.P

namespace Go.Proofs.Ytjlmfnpgcmmdnaa.C
open Go.RowKit Go.Proofs.Ytjlmfnpgcmmdnaa.P Go.Proofs.Ytjlmfnpgcmmdnaa.G
theorem l1In (a b c : Int) : spec_l1In.f a b c = some (decide (b ≤ a ∧ a ≤ c)) := by
  unfold spec_l1In.f; by_cases h : a ≥ b <;> simp [h] <;> omega
theorem in_ (a b c : Int) : impl_in.f a b c = some (decide (b ≤ a ∧ a ≤ c)) := by
  unfold impl_in.f; by_cases h : b ≤ a <;> simp [h]
theorem isTime (a : Int) : impl_isTime.f a = some (decide (0 ≤ a ∧ a ≤ 1000000000000)) := by
  unfold impl_isTime.f; rw [in_]; rfl
theorem l4Node (a : Int) : spec_l4Node.f a = some (decide (0 ≤ a ∧ a ≤ 7)) := by
  unfold spec_l4Node.f; rw [l1In]; rfl
theorem isNode (a : Int) : impl_isNode.f a = some (decide (0 ≤ a ∧ a ≤ 7)) := by
  unfold impl_isNode.f; rw [in_]; rfl
def frameOk (a b c d e : Int) (s : ByteArray) : Bool := decide (0 ≤ a ∧ a ≤ 7) && decide (0 ≤ b ∧ b ≤ 15) && decide (0 ≤ c ∧ c ≤ 1000000000000) && decide (0 ≤ d) && decide (d < e) && decide (e ≤ 1000000000000) && decide ((s.size : Int) ≤ 24)
theorem sFrameOk (a b c d e : Int) (s : ByteArray) : spec_FrameOk.f a b c d e s = some (frameOk a b c d e s) := by
  unfold spec_FrameOk.f frameOk; simp only [l4Node, l1In, Option.bind_some, ge_iff_le]
  by_cases h1 : (0 ≤ a ∧ a ≤ 7) <;> by_cases h2 : (0 ≤ b ∧ b ≤ 15) <;> by_cases h3 : (0 ≤ c ∧ c ≤ 1000000000000) <;> by_cases h4 : 0 ≤ d <;> by_cases h5 : d < e <;> by_cases h6 : e ≤ 1000000000000 <;> simp [h1, h2, h3, h4, h5, h6]
theorem iFrameOk (a b c d e : Int) (s : ByteArray) : impl_FrameOk.f a b c d e s = some (frameOk a b c d e s) := by
  unfold impl_FrameOk.f frameOk; simp only [isNode, isTime, in_, Option.bind_some]
  by_cases h1 : (0 ≤ a ∧ a ≤ 7) <;> by_cases h2 : (0 ≤ b ∧ b ≤ 15) <;> by_cases h3 : (0 ≤ c ∧ c ≤ 1000000000000) <;> by_cases h4 : 0 ≤ d <;> by_cases h5 : d < e <;> by_cases h6 : e ≤ 1000000000000 <;> simp [h1, h2, h3, h4, h5, h6]
end Go.Proofs.Ytjlmfnpgcmmdnaa.C
namespace Go.Proofs.Ytjlmfnpgcmmdnaa.P
open Go.RowKit Go.Proofs.YtjlmfnpgcmmdnaaW.PrintWords Go.Proofs.YtjlmfnpgcmmdnaaW.PrintLast Go.Proofs.YtjlmfnpgcmmdnaaW.PrintMore
attribute [local go_sem] max2_int min2_int max_two min_two max_three min_three max_four min_four
set_option linter.unusedVariables false
set_option linter.unusedSimpArgs false
end Go.Proofs.Ytjlmfnpgcmmdnaa.P

namespace Go.Proofs.Ytjlmfnpgcmmdnaa.P
open Go.RowKit Go.Proofs.YtjlmfnpgcmmdnaaW.PrintWords Go.Proofs.YtjlmfnpgcmmdnaaW.PrintLast Go.Proofs.YtjlmfnpgcmmdnaaW.PrintMore
attribute [local go_sem] max2_int min2_int max_two min_two max_three min_three max_four min_four
set_option linter.unusedVariables false
set_option linter.unusedSimpArgs false
end Go.Proofs.Ytjlmfnpgcmmdnaa.P

namespace Go.Proofs.Ytjlmfnpgcmmdnaa.P
open Go.RowKit Go.Proofs.YtjlmfnpgcmmdnaaW.PrintWords Go.Proofs.YtjlmfnpgcmmdnaaW.PrintLast Go.Proofs.YtjlmfnpgcmmdnaaW.PrintMore
attribute [local go_sem] max2_int min2_int max_two min_two max_three min_three max_four min_four
set_option linter.unusedVariables false
set_option linter.unusedSimpArgs false
end Go.Proofs.Ytjlmfnpgcmmdnaa.P

namespace Go.Proofs.Ytjlmfnpgcmmdnaa.P
open Go.RowKit Go.Proofs.YtjlmfnpgcmmdnaaW.PrintWords Go.Proofs.YtjlmfnpgcmmdnaaW.PrintLast Go.Proofs.YtjlmfnpgcmmdnaaW.PrintMore
attribute [local go_sem] max2_int min2_int max_two min_two max_three min_three max_four min_four
set_option linter.unusedVariables false
set_option linter.unusedSimpArgs false
end Go.Proofs.Ytjlmfnpgcmmdnaa.P

namespace Go.Proofs.Ytjlmfnpgcmmdnaa.P
open Go.RowKit Go.Proofs.YtjlmfnpgcmmdnaaW.PrintWords Go.Proofs.YtjlmfnpgcmmdnaaW.PrintLast Go.Proofs.YtjlmfnpgcmmdnaaW.PrintMore
attribute [local go_sem] max2_int min2_int max_two min_two max_three min_three max_four min_four
set_option linter.unusedVariables false
set_option linter.unusedSimpArgs false
end Go.Proofs.Ytjlmfnpgcmmdnaa.P

namespace Go.Proofs.Ytjlmfnpgcmmdnaa.P
open Go.RowKit Go.Proofs.YtjlmfnpgcmmdnaaW.PrintWords Go.Proofs.YtjlmfnpgcmmdnaaW.PrintLast Go.Proofs.YtjlmfnpgcmmdnaaW.PrintMore
attribute [local go_sem] max2_int min2_int max_two min_two max_three min_three max_four min_four
set_option linter.unusedVariables false
set_option linter.unusedSimpArgs false
end Go.Proofs.Ytjlmfnpgcmmdnaa.P

namespace Go.Proofs.Ytjlmfnpgcmmdnaa.C
open Go.RowKit Go.Proofs.Ytjlmfnpgcmmdnaa.P Go.Proofs.Ytjlmfnpgcmmdnaa.G
abbrev Fr := S33
theorem rdFr (l : List Fr) (i : Nat) (h : i < l.length) : rd_T33 l (i : Int) = l[i] := by
  unfold rd_T33; simp [List.getD, h]
def frOk (l : List Fr) (i : Nat) : Bool := match l[i]? with
  | some x => frameOk x.f0 x.f1 x.f2 x.f3 x.f4 x.f5 && (i == 0 || (match l[i - 1]? with | some y => !decide (x.f3 < y.f3) | none => true))
  | none => true
def busOk (l : List Fr) : Bool := (List.range l.length).all (frOk l) && decide ((l.length : Int) ≤ 60)
theorem busOk_len {l : List Fr} (h : busOk l = true) : l.length ≤ 60 := by unfold busOk at h; simp at h; omega
theorem sBusOk (l : List Fr) (hl : l.length ≤ 1048576) (k : Nat) (hk : l.length < k) : spec_BusOk.f k l = some (busOk l) := by
  unfold spec_BusOk.f busOk
  by_cases h : (l.length : Int) > 60
  · rw [if_pos h, decide_eq_false (by omega)]; simp
  rw [if_neg h, decide_eq_true (by omega)]
  refine all_loop0 (n := l.length) (L := fun k i => spec_BusOk.l0 k l i) (Q := frOk l) (e := true) (fun k i hi => ?_) (fun k => ?_) k hk
  · simp only [spec_BusOk.l0, sFrameOk, Option.bind_some]
    rw [if_pos (by omega), if_pos (by omega), wrap_succ hi (by omega), rdFr l i hi]
    have hq : frOk l i = (frameOk l[i].f0 l[i].f1 l[i].f2 l[i].f3 l[i].f4 l[i].f5 && (i == 0 || (match l[i - 1]? with | some y => !decide (l[i].f3 < y.f3) | none => true))) := by unfold frOk; rw [List.getElem?_eq_getElem hi]
    rw [hq]
    rcases Bool.eq_false_or_eq_true (frameOk l[i].f0 l[i].f1 l[i].f2 l[i].f3 l[i].f4 l[i].f5) with hf | hf
    case inr => rw [hf]; simp
    case inl =>
      rw [hf, if_pos rfl, Bool.true_and]
      rcases Nat.eq_zero_or_pos i with h0 | h0
      · subst h0; simp
      · rw [if_pos (by omega), wrap_pred h0 hi (by omega), if_pos (by omega), if_pos (by omega), rdFr l (i - 1) (by omega), List.getElem?_eq_getElem (show i - 1 < l.length by omega)]
        simp only
        have : (i == 0) = false := by simp; omega
        rw [this, Bool.false_or]
        by_cases h2 : l[i].f3 < l[i - 1].f3 <;> simp [h2]
  · simp only [spec_BusOk.l0]
    rw [if_neg (by omega)]
theorem iBusOk (l : List Fr) (hl : l.length ≤ 1048576) (k : Nat) (hk : l.length < k) : impl_BusOk.f k l = some (busOk l) := by
  unfold impl_BusOk.f busOk
  refine all_loop0 (n := l.length) (L := fun k i => impl_BusOk.l0 k l l (l.length : Int) i) (Q := frOk l) (e := decide ((l.length : Int) ≤ 60)) (fun k i hi => ?_) (fun k => ?_) k hk
  · simp only [impl_BusOk.l0, iFrameOk, Option.bind_some]
    rw [if_pos (by omega), if_pos (by omega), if_pos (by omega), wrap_succ hi (by omega), rdFr l i hi]
    have hq : frOk l i = (frameOk l[i].f0 l[i].f1 l[i].f2 l[i].f3 l[i].f4 l[i].f5 && (i == 0 || (match l[i - 1]? with | some y => !decide (l[i].f3 < y.f3) | none => true))) := by unfold frOk; rw [List.getElem?_eq_getElem hi]
    rw [hq]
    rcases Bool.eq_false_or_eq_true (frameOk l[i].f0 l[i].f1 l[i].f2 l[i].f3 l[i].f4 l[i].f5) with hf | hf
    case inr => rw [hf]; simp
    case inl =>
      rw [hf, if_pos rfl, Bool.true_and]
      rcases Nat.eq_zero_or_pos i with h0 | h0
      · subst h0; simp
      · rw [if_pos (by omega), wrap_pred h0 hi (by omega), if_pos (by omega), if_pos (by omega), rdFr l (i - 1) (by omega), List.getElem?_eq_getElem (show i - 1 < l.length by omega)]
        simp only
        have : (i == 0) = false := by simp; omega
        rw [this, Bool.false_or]
        by_cases h2 : l[i].f3 < l[i - 1].f3 <;> simp [h2]
  · simp only [impl_BusOk.l0]
    rw [if_neg (by omega)]
end Go.Proofs.Ytjlmfnpgcmmdnaa.C
namespace Go.Proofs.Ytjlmfnpgcmmdnaa.P
open Go.RowKit Go.Proofs.YtjlmfnpgcmmdnaaW.PrintWords Go.Proofs.YtjlmfnpgcmmdnaaW.PrintLast Go.Proofs.YtjlmfnpgcmmdnaaW.PrintMore
attribute [local go_sem] max2_int min2_int max_two min_two max_three min_three max_four min_four
set_option linter.unusedVariables false
set_option linter.unusedSimpArgs false
end Go.Proofs.Ytjlmfnpgcmmdnaa.P

namespace Go.Proofs.Ytjlmfnpgcmmdnaa.C
open Go.RowKit Go.Proofs.Ytjlmfnpgcmmdnaa.P Go.Proofs.Ytjlmfnpgcmmdnaa.G Go.Proofs.YtjlmfnpgcmmdnaaW.PrintWords
abbrev Cl := S35
theorem rdCl (l : List Cl) (i : Nat) (h : i < l.length) : rd_T35 l (i : Int) = l[i] := by
  unfold rd_T35; simp [List.getD, h]
def cl (l : List Fr) (i j : Nat) : Bool := match l[i]?, l[j]? with
  | some x, some y => decide (x.f3 < y.f4) && decide (y.f3 < x.f4)
  | _, _ => false
theorem cl_eq (l : List Fr) (i j : Nat) (hi : i < l.length) (hj : j < l.length) : cl l i j = (decide (l[i].f3 < l[j].f4) && decide (l[j].f3 < l[i].f4)) := by
  unfold cl; rw [List.getElem?_eq_getElem hi, List.getElem?_eq_getElem hj]
def clStep (l : List Fr) (i : Nat) (acc : List Cl) (j : Nat) : List Cl := if cl l i j = true then acc ++ [⟨i, j⟩] else acc
def clRow (l : List Fr) (i : Nat) (acc : List Cl) : List Cl := (List.range' (i + 1) (l.length - (i + 1))).foldl (fun s j => clStep l i s j) acc
theorem clRow_len (l : List Fr) (i : Nat) (acc : List Cl) : (clRow l i acc).length ≤ acc.length + l.length := by
  unfold clRow
  have : ∀ (d j : Nat) (acc : List Cl), ((List.range' j d).foldl (fun s j => clStep l i s j) acc).length ≤ acc.length + d := by
    intro d
    induction d with
    | zero => intro j acc; simp
    | succ d ih =>
      intro j acc
      rw [List.range'_succ, List.foldl_cons]
      have := ih (j + 1) (clStep l i acc j)
      have h2 : (clStep l i acc j).length ≤ acc.length + 1 := by unfold clStep; split <;> simp
      omega
  have := this (l.length - (i + 1)) (i + 1) acc
  omega
def clF (l : List Fr) : Nat → List Cl
  | 0 => []
  | i + 1 => clRow l i (clF l i)
theorem clF_len (l : List Fr) : ∀ i, (clF l i).length ≤ i * l.length := by
  intro i
  induction i with
  | zero => simp [clF]
  | succ i ih => rw [clF]; have := clRow_len l i (clF l i); rw [Nat.succ_mul]; omega
def clashes (l : List Fr) : List Cl := if busOk l = true then clF l l.length else []
theorem clashes_len (l : List Fr) : (clashes l).length ≤ 3600 := by
  unfold clashes; split
  · rename_i h
    have := busOk_len h
    have h2 := clF_len l l.length
    have h3 : l.length * l.length ≤ 60 * 60 := Nat.mul_le_mul this this
    omega
  · simp
theorem clStep_len (l : List Fr) (i j : Nat) (acc : List Cl) : (clStep l i acc j).length ≤ acc.length + 1 := by unfold clStep; split <;> simp
theorem sClashRow {l : List Fr} (hb : l.length ≤ 60) (i : Nat) (hi : i < l.length) (acc : List Cl) (ha : acc.length ≤ 3600) (k : Nat) :
    spec_BusClashes.l1 (k + (l.length - (i + 1)) + 1) l acc (i : Int) ((i + 1 : Nat) : Int) = spec_BusClashes.l0 k l (clRow l i acc) ((i + 1 : Nat) : Int) := by
  refine fold_exact (n := l.length) (L := fun k s j => spec_BusClashes.l1 k l s (i : Int) j) (M := fun k s => spec_BusClashes.l0 k l s ((i + 1 : Nat) : Int)) (st := fun j s => clStep l i s j) (I := fun j s => s.length ≤ 3600 + j) (fun k j s hj hs => ?_) (fun j s hj hs => ?_) (fun k s hs => ?_) (l.length - (i + 1)) (i + 1) acc k (by omega) (by omega)
  · simp only [spec_BusClashes.l1, spec_l15Clash.f]
    rw [if_pos (by omega), if_pos (by omega), if_pos (by omega), if_pos (by omega), wrap_succ hj (by omega), rdFr l i hi, rdFr l j hj]
    unfold clStep
    rw [cl_eq l i j hi hj]
    by_cases h1 : l[i].f3 < l[j].f4
    · rw [if_pos h1, Option.bind_some]
      by_cases h2 : l[j].f3 < l[i].f4
      · rw [decide_eq_true h2, if_pos rfl, if_pos (by omega), decide_eq_true h1, Bool.and_self, if_pos rfl]
      · rw [decide_eq_false h2, if_neg (by decide), Bool.and_false, if_neg (by decide)]
    · rw [if_neg h1, Option.bind_some, if_neg (by decide), decide_eq_false h1, Bool.false_and, if_neg (by decide)]
  · have := clStep_len l i j s; omega
  · simp only [spec_BusClashes.l1]
    rw [if_neg (by omega), wrap_succ hi (by omega)]
theorem sClashes (l : List Fr) (hl : l.length ≤ 1048576) (k : Nat) (hk : 1050000 ≤ k) : spec_BusClashes.f k l = some (clashes l) := by
  unfold spec_BusClashes.f clashes
  rw [Option.bind_some, sBusOk l hl k (by omega), Option.bind_some]
  split
  · rename_i h
    have hb := busOk_len h
    have : ∀ d i k, i + d = l.length → d * 70 < k → spec_BusClashes.l0 k l (clF l i) (i : Int) = some (clF l l.length) := by
      intro d
      induction d with
      | zero =>
        intro i k hi hk
        obtain ⟨k, rfl⟩ : ∃ j, k = j + 1 := ⟨k - 1, by omega⟩
        obtain rfl : i = l.length := by omega
        simp only [spec_BusClashes.l0]
        rw [if_neg (by omega)]
      | succ d ih =>
        intro i k hi hk
        obtain ⟨k, rfl⟩ : ∃ j, k = (j + (l.length - (i + 1)) + 1) + 1 := ⟨k - (l.length - (i + 1)) - 2, by omega⟩
        have hn := clF_len l i
        have h3 : i * l.length ≤ 60 * 60 := Nat.mul_le_mul (by omega) hb
        simp only [spec_BusClashes.l0]
        rw [if_pos (by omega), wrap_succ (show i < l.length by omega) (by omega), sClashRow hb i (by omega) _ (by omega) k]
        exact ih (i + 1) k (by omega) (by omega)
    exact this l.length 0 k (by omega) (by omega)
  · rfl
end Go.Proofs.Ytjlmfnpgcmmdnaa.C
namespace Go.Proofs.Ytjlmfnpgcmmdnaa.P
open Go.RowKit Go.Proofs.YtjlmfnpgcmmdnaaW.PrintWords Go.Proofs.YtjlmfnpgcmmdnaaW.PrintLast Go.Proofs.YtjlmfnpgcmmdnaaW.PrintMore
attribute [local go_sem] max2_int min2_int max_two min_two max_three min_three max_four min_four
set_option linter.unusedVariables false
set_option linter.unusedSimpArgs false
end Go.Proofs.Ytjlmfnpgcmmdnaa.P

namespace Go.Proofs.Ytjlmfnpgcmmdnaa.P
open Go.RowKit Go.Proofs.YtjlmfnpgcmmdnaaW.PrintWords Go.Proofs.YtjlmfnpgcmmdnaaW.PrintLast Go.Proofs.YtjlmfnpgcmmdnaaW.PrintMore
attribute [local go_sem] max2_int min2_int max_two min_two max_three min_three max_four min_four
set_option linter.unusedVariables false
set_option linter.unusedSimpArgs false
end Go.Proofs.Ytjlmfnpgcmmdnaa.P

namespace Go.Proofs.Ytjlmfnpgcmmdnaa.P
open Go.RowKit Go.Proofs.YtjlmfnpgcmmdnaaW.PrintWords Go.Proofs.YtjlmfnpgcmmdnaaW.PrintLast Go.Proofs.YtjlmfnpgcmmdnaaW.PrintMore
attribute [local go_sem] max2_int min2_int max_two min_two max_three min_three max_four min_four
set_option linter.unusedVariables false
set_option linter.unusedSimpArgs false
end Go.Proofs.Ytjlmfnpgcmmdnaa.P

namespace Go.Proofs.Ytjlmfnpgcmmdnaa.P
open Go.RowKit Go.Proofs.YtjlmfnpgcmmdnaaW.PrintWords Go.Proofs.YtjlmfnpgcmmdnaaW.PrintLast Go.Proofs.YtjlmfnpgcmmdnaaW.PrintMore
attribute [local go_sem] max2_int min2_int max_two min_two max_three min_three max_four min_four
set_option linter.unusedVariables false
set_option linter.unusedSimpArgs false
end Go.Proofs.Ytjlmfnpgcmmdnaa.P

