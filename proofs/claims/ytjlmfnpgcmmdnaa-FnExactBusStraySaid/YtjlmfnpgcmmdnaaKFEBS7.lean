/- Texts of the seat's proofs, part 7: functions of the program told as plain functions, with their contracts, and what is shown of them. No condition. -/
import Derived.Test.YtjlmfnpgcmmdnaaUKFEBS
import Derived.Test.YtjlmfnpgcmmdnaaKFEBS6
import Derived.Test.YtjlmfnpgcmmdnaaKFEBS4
import Derived.Test.YtjlmfnpgcmmdnaaKFEBS3
import Derived.Test.YtjlmfnpgcmmdnaaKFEBS1
import Derived.Test.YtjlmfnpgcmmdnaaKFEBS2
import Derived.Test.YtjlmfnpgcmmdnaaKFEBS5
set_option linter.unusedVariables false
set_option linter.unusedSimpArgs false
namespace Go.Proofs.Ytjlmfnpgcmmdnaa.G
open Go.RowKit Go.Proofs.YtjlmfnpgcmmdnaaW.PrintWords
theorem mark_loop {α ρ : Type} {l : List α} {f : Nat → α} {w : Nat → Int} {L : Nat → List α → Int → Int → Option ρ} {fin : List α → ρ} {c : Nat}
    (hs : ∀ k i acc, i < l.length → acc.length = l.length → c ≤ k → L (k + 1) acc (w i) (i : Int) = L k (acc.set i (f i)) (w (i + 1)) ((i + 1 : Nat) : Int))
    (he : ∀ k acc, acc.length = l.length → L (k + 1) acc (w l.length) (l.length : Int) = some (fin acc)) :
    ∀ d i k, i + d = l.length → d + c < k → L k ((List.range i).map f ++ l.drop i) (w i) (i : Int) = some (fin ((List.range l.length).map f)) := by
  intro d
  induction d with
  | zero =>
    intro i k h hk
    obtain ⟨k, rfl⟩ : ∃ m, k = m + 1 := ⟨k - 1, by omega⟩
    obtain rfl : i = l.length := by omega
    rw [he _ _ (by simp)]; simp
  | succ d ih =>
    intro i k h hk
    obtain ⟨k, rfl⟩ : ∃ m, k = m + 1 := ⟨k - 1, by omega⟩
    have hi : i < l.length := by omega
    rw [hs _ _ _ hi (by simp; omega) (by omega), ← ih (i + 1) k (by omega) (by omega)]
    congr 1
    have hl : ((List.range i).map f).length = i := by simp
    rw [List.set_append, if_neg (by omega), hl, Nat.sub_self, List.drop_eq_getElem_cons hi, List.set_cons_zero, List.range_succ, List.map_append, List.append_assoc]
    rfl
theorem mark_loop0 {α ρ : Type} {l : List α} {f : Nat → α} {w : Nat → Int} {L : Nat → List α → Int → Int → Option ρ} {fin : List α → ρ} {c : Nat}
    (hs : ∀ k i acc, i < l.length → acc.length = l.length → c ≤ k → L (k + 1) acc (w i) (i : Int) = L k (acc.set i (f i)) (w (i + 1)) ((i + 1 : Nat) : Int))
    (he : ∀ k acc, acc.length = l.length → L (k + 1) acc (w l.length) (l.length : Int) = some (fin acc)) (k : Nat) (hk : l.length + c < k) :
    L k l (w 0) 0 = some (fin ((List.range l.length).map f)) := by
  have := mark_loop hs he l.length 0 k (by omega) hk
  simpa using this
end Go.Proofs.Ytjlmfnpgcmmdnaa.G
namespace Go.Proofs.Ytjlmfnpgcmmdnaa.C
open Go.RowKit Go.Proofs.Ytjlmfnpgcmmdnaa.P Go.Proofs.Ytjlmfnpgcmmdnaa.G
theorem l1In (a b c : Int) : spec_l1In.f a b c = some (decide (b ≤ a ∧ a ≤ c)) := by
  unfold spec_l1In.f; by_cases h : a ≥ b <;> simp [h] <;> omega
theorem in_ (a b c : Int) : impl_in.f a b c = some (decide (b ≤ a ∧ a ≤ c)) := by
  unfold impl_in.f; by_cases h : b ≤ a <;> simp [h]
theorem l2Time (a : Int) : spec_l2Time.f a = some (decide (0 ≤ a ∧ a ≤ 1000000000000)) := by
  unfold spec_l2Time.f; rw [l1In]; rfl
theorem isTime (a : Int) : impl_isTime.f a = some (decide (0 ≤ a ∧ a ≤ 1000000000000)) := by
  unfold impl_isTime.f; rw [in_]; rfl
theorem l4Node (a : Int) : spec_l4Node.f a = some (decide (0 ≤ a ∧ a ≤ 7)) := by
  unfold spec_l4Node.f; rw [l1In]; rfl
theorem isNode (a : Int) : impl_isNode.f a = some (decide (0 ≤ a ∧ a ≤ 7)) := by
  unfold impl_isNode.f; rw [in_]; rfl
def timeOk (x : Int) : Bool := decide (0 ≤ x ∧ x ≤ 1000000000000)
theorem timeOk_iff (x : Int) : timeOk x = true ↔ 0 ≤ x ∧ x ≤ 1000000000000 := by unfold timeOk; simp
def frameOk (a b c d e : Int) (s : ByteArray) : Bool := decide (0 ≤ a ∧ a ≤ 7) && decide (0 ≤ b ∧ b ≤ 15) && decide (0 ≤ c ∧ c ≤ 1000000000000) && decide (0 ≤ d) && decide (d < e) && decide (e ≤ 1000000000000) && decide ((s.size : Int) ≤ 24)
theorem sFrameOk (a b c d e : Int) (s : ByteArray) : spec_FrameOk.f a b c d e s = some (frameOk a b c d e s) := by
  unfold spec_FrameOk.f frameOk; simp only [l4Node, l1In, Option.bind_some, ge_iff_le]
  by_cases h1 : (0 ≤ a ∧ a ≤ 7) <;> by_cases h2 : (0 ≤ b ∧ b ≤ 15) <;> by_cases h3 : (0 ≤ c ∧ c ≤ 1000000000000) <;> by_cases h4 : 0 ≤ d <;> by_cases h5 : d < e <;> by_cases h6 : e ≤ 1000000000000 <;> simp [h1, h2, h3, h4, h5, h6]
theorem iFrameOk (a b c d e : Int) (s : ByteArray) : impl_FrameOk.f a b c d e s = some (frameOk a b c d e s) := by
  unfold impl_FrameOk.f frameOk; simp only [isNode, isTime, in_, Option.bind_some]
  by_cases h1 : (0 ≤ a ∧ a ≤ 7) <;> by_cases h2 : (0 ≤ b ∧ b ≤ 15) <;> by_cases h3 : (0 ≤ c ∧ c ≤ 1000000000000) <;> by_cases h4 : 0 ≤ d <;> by_cases h5 : d < e <;> by_cases h6 : e ≤ 1000000000000 <;> simp [h1, h2, h3, h4, h5, h6]
abbrev Fr := S33
abbrev FrL := S52
def toFr (x : FrL) : Fr := ⟨x.f0, x.f1, x.f2, x.f3, x.f4, x.f5⟩
theorem rdFr (l : List Fr) (i : Nat) (h : i < l.length) : rd_T33 l (i : Int) = l[i] := by
  unfold rd_T33; simp [List.getD, h]
theorem rdFrL (l : List FrL) (i : Nat) (h : i < l.length) : rd_T52 l (i : Int) = l[i] := by
  unfold rd_T52; simp [List.getD, h]
theorem szFrameS (l : List FrL) (hl : l.length ≤ 9223372036854775807) (hb : ∀ y ∈ l, y.f5.size ≤ 9223372036854775807) (x : Int) (hx : 0 ≤ x ∧ x ≤ 1048576) (k : Nat) (hk : 1048576 < k) :
    ∃ r, laws_szFrameS.f k l x = some r ∧ (r = -1 ∨ (0 ≤ r ∧ r ≤ x ∧ (l.length : Int) ≤ x)) := by
  unfold laws_szFrameS.f
  rw [wrap_id (by omega) (by omega)]
  by_cases h : x - (l.length : Int) < 0
  · rw [if_pos h]; exact ⟨_, rfl, Or.inl rfl⟩
  rw [if_neg h]
  refine inv_loop (n := l.length) (L := fun k s i => laws_szFrameS.l0 k l s i) (I := fun i s => 0 ≤ s ∧ s ≤ x) (R := fun r => r = -1 ∨ (0 ≤ r ∧ r ≤ x ∧ (l.length : Int) ≤ x)) (fun k i s hi hs => ?_) (fun k s hs => ?_) l.length 0 _ k (by omega) (by omega) (by omega)
  · simp only [laws_szFrameS.l0, laws_szFrame.f]
    have hbi := hb l[i] (List.getElem_mem hi)
    rw [if_pos (by omega), if_pos (by omega), wrap_succ hi (by omega), rdFrL l i hi, wrap_id (by omega) (by omega)]
    by_cases h2 : s - (l[i].f5.size : Int) < 0
    · right; rw [if_pos h2]; exact ⟨-1, by simp, Or.inl rfl⟩
    · left; rw [if_neg h2]; simp only [Option.bind_some]; rw [if_neg h2]; exact ⟨_, rfl, by omega⟩
  · simp only [laws_szFrameS.l0]
    rw [if_neg (by omega)]; exact ⟨s, rfl, Or.inr (by omega)⟩
theorem toFrameS (l : List FrL) (hl : l.length ≤ 1048576) (k : Nat) (hk : l.length < k) : laws_toFrameS.f k l = some (l.map toFr) := by
  unfold laws_toFrameS.f
  rw [if_pos (by omega), if_pos (by simp; omega)]
  simp only [Int.toNat_natCast]
  refine to_loop0 (L := fun k acc i => laws_toFrameS.l0 k l acc i) (fun k acc i hi ha => ?_) (fun k acc ha => ?_) k hk
  · simp only [laws_toFrameS.l0, laws_toFrame.f, Option.bind_some]
    rw [if_pos (by omega), if_pos (by omega), if_pos (by omega), wrap_succ hi (by omega), rdFrL l i hi]
    rfl
  · simp only [laws_toFrameS.l0]
    rw [if_neg (by omega)]
theorem eqFrameS (l : List Fr) (hl : l.length ≤ 1048576) (k : Nat) (hk : l.length < k) : laws_eqFrameS.f k l l = some true := by
  unfold laws_eqFrameS.f
  rw [if_pos rfl]
  refine all_loopT (n := l.length) (L := fun k i => laws_eqFrameS.l0 k l l i) (fun k i hi => ?_) (fun k => ?_) k hk
  · simp only [laws_eqFrameS.l0, laws_eqFrame.f]
    rw [if_pos (by omega), if_pos (by omega), if_pos (by omega), wrap_succ hi (by omega)]
    simp
  · simp only [laws_eqFrameS.l0]
    rw [if_neg (by omega)]
def frOk (l : List Fr) (i : Nat) : Bool := match l[i]? with
  | some x => frameOk x.f0 x.f1 x.f2 x.f3 x.f4 x.f5 && (i == 0 || (match l[i - 1]? with | some y => !decide (x.f3 < y.f3) | none => true))
  | none => true
def busOk (l : List Fr) : Bool := (List.range l.length).all (frOk l) && decide ((l.length : Int) ≤ 60)
theorem busOk_len {l : List Fr} (h : busOk l = true) : l.length ≤ 60 := by unfold busOk at h; simp at h; omega
theorem sBusOk (l : List Fr) (hl : l.length ≤ 1048576) (k : Nat) (hk : l.length < k) : spec_BusOk.f k l = some (busOk l) := by
  unfold spec_BusOk.f busOk
  by_cases h : (l.length : Int) > 60
  · rw [if_pos h, decide_eq_false (by omega)]; simp
  rw [if_neg h, decide_eq_true (by omega)]
  refine all_loop0 (n := l.length) (L := fun k i => spec_BusOk.l0 k l i) (Q := frOk l) (e := true) (fun k i hi => ?_) (fun k => ?_) k hk
  · simp only [spec_BusOk.l0, sFrameOk, Option.bind_some]
    rw [if_pos (by omega), if_pos (by omega), wrap_succ hi (by omega), rdFr l i hi]
    have hq : frOk l i = (frameOk l[i].f0 l[i].f1 l[i].f2 l[i].f3 l[i].f4 l[i].f5 && (i == 0 || (match l[i - 1]? with | some y => !decide (l[i].f3 < y.f3) | none => true))) := by unfold frOk; rw [List.getElem?_eq_getElem hi]
    rw [hq]
    rcases Bool.eq_false_or_eq_true (frameOk l[i].f0 l[i].f1 l[i].f2 l[i].f3 l[i].f4 l[i].f5) with hf | hf
    case inr => rw [hf]; simp
    case inl =>
      rw [hf, if_pos rfl, Bool.true_and]
      rcases Nat.eq_zero_or_pos i with h0 | h0
      · subst h0; simp
      · rw [if_pos (by omega), wrap_pred h0 hi (by omega), if_pos (by omega), if_pos (by omega), rdFr l (i - 1) (by omega), List.getElem?_eq_getElem (show i - 1 < l.length by omega)]
        simp only
        have : (i == 0) = false := by simp; omega
        rw [this, Bool.false_or]
        by_cases h2 : l[i].f3 < l[i - 1].f3 <;> simp [h2]
  · simp only [spec_BusOk.l0]
    rw [if_neg (by omega)]
theorem iBusOk (l : List Fr) (hl : l.length ≤ 1048576) (k : Nat) (hk : l.length < k) : impl_BusOk.f k l = some (busOk l) := by
  unfold impl_BusOk.f busOk
  refine all_loop0 (n := l.length) (L := fun k i => impl_BusOk.l0 k l l (l.length : Int) i) (Q := frOk l) (e := decide ((l.length : Int) ≤ 60)) (fun k i hi => ?_) (fun k => ?_) k hk
  · simp only [impl_BusOk.l0, iFrameOk, Option.bind_some]
    rw [if_pos (by omega), if_pos (by omega), if_pos (by omega), wrap_succ hi (by omega), rdFr l i hi]
    have hq : frOk l i = (frameOk l[i].f0 l[i].f1 l[i].f2 l[i].f3 l[i].f4 l[i].f5 && (i == 0 || (match l[i - 1]? with | some y => !decide (l[i].f3 < y.f3) | none => true))) := by unfold frOk; rw [List.getElem?_eq_getElem hi]
    rw [hq]
    rcases Bool.eq_false_or_eq_true (frameOk l[i].f0 l[i].f1 l[i].f2 l[i].f3 l[i].f4 l[i].f5) with hf | hf
    case inr => rw [hf]; simp
    case inl =>
      rw [hf, if_pos rfl, Bool.true_and]
      rcases Nat.eq_zero_or_pos i with h0 | h0
      · subst h0; simp
      · rw [if_pos (by omega), wrap_pred h0 hi (by omega), if_pos (by omega), if_pos (by omega), rdFr l (i - 1) (by omega), List.getElem?_eq_getElem (show i - 1 < l.length by omega)]
        simp only
        have : (i == 0) = false := by simp; omega
        rw [this, Bool.false_or]
        by_cases h2 : l[i].f3 < l[i - 1].f3 <;> simp [h2]
  · simp only [impl_BusOk.l0]
    rw [if_neg (by omega)]
end Go.Proofs.Ytjlmfnpgcmmdnaa.C
namespace Go.Proofs.Ytjlmfnpgcmmdnaa.P
open Go.RowKit Go.Proofs.YtjlmfnpgcmmdnaaW.PrintWords Go.Proofs.YtjlmfnpgcmmdnaaW.PrintLast Go.Proofs.YtjlmfnpgcmmdnaaW.PrintMore
attribute [local go_sem] max2_int min2_int max_two min_two max_three min_three max_four min_four
set_option linter.unusedVariables false
set_option linter.unusedSimpArgs false
end Go.Proofs.Ytjlmfnpgcmmdnaa.P

namespace Go.Proofs.Ytjlmfnpgcmmdnaa.P
open Go.RowKit Go.Proofs.YtjlmfnpgcmmdnaaW.PrintWords Go.Proofs.YtjlmfnpgcmmdnaaW.PrintLast Go.Proofs.YtjlmfnpgcmmdnaaW.PrintMore
attribute [local go_sem] max2_int min2_int max_two min_two max_three min_three max_four min_four
set_option linter.unusedVariables false
set_option linter.unusedSimpArgs false
end Go.Proofs.Ytjlmfnpgcmmdnaa.P

namespace Go.Proofs.Ytjlmfnpgcmmdnaa.P
open Go.RowKit Go.Proofs.YtjlmfnpgcmmdnaaW.PrintWords Go.Proofs.YtjlmfnpgcmmdnaaW.PrintLast Go.Proofs.YtjlmfnpgcmmdnaaW.PrintMore
attribute [local go_sem] max2_int min2_int max_two min_two max_three min_three max_four min_four
set_option linter.unusedVariables false
set_option linter.unusedSimpArgs false
end Go.Proofs.Ytjlmfnpgcmmdnaa.P

namespace Go.Proofs.Ytjlmfnpgcmmdnaa.P
open Go.RowKit Go.Proofs.YtjlmfnpgcmmdnaaW.PrintWords Go.Proofs.YtjlmfnpgcmmdnaaW.PrintLast Go.Proofs.YtjlmfnpgcmmdnaaW.PrintMore
attribute [local go_sem] max2_int min2_int max_two min_two max_three min_three max_four min_four
set_option linter.unusedVariables false
set_option linter.unusedSimpArgs false
end Go.Proofs.Ytjlmfnpgcmmdnaa.P

set_option linter.unusedVariables false
set_option linter.unusedSimpArgs false
namespace Go.Proofs.Ytjlmfnpgcmmdnaa.C
open Go.RowKit Go.Proofs.Ytjlmfnpgcmmdnaa.P Go.Proofs.Ytjlmfnpgcmmdnaa.G Go.Proofs.YtjlmfnpgcmmdnaaW.PrintWords
end Go.Proofs.Ytjlmfnpgcmmdnaa.C

namespace Go.Proofs.Ytjlmfnpgcmmdnaa.C
open Go.RowKit Go.Proofs.Ytjlmfnpgcmmdnaa.P Go.Proofs.Ytjlmfnpgcmmdnaa.G
abbrev Sl := S90
abbrev SlL := S110
def toSl (x : SlL) : Sl := ⟨x.f0, x.f1⟩
theorem rdSl (l : List Sl) (i : Nat) (h : i < l.length) : rd_T90 l (i : Int) = l[i] := by
  unfold rd_T90; simp [List.getD, h]
theorem rdSlL (l : List SlL) (i : Nat) (h : i < l.length) : rd_T110 l (i : Int) = l[i] := by
  unfold rd_T110; simp [List.getD, h]
theorem toSlotS (l : List SlL) (hl : l.length ≤ 1048576) (k : Nat) (hk : l.length < k) : laws_toSlotS.f k l = some (l.map toSl) := by
  unfold laws_toSlotS.f
  rw [if_pos (by omega), if_pos (by simp; omega)]
  simp only [Int.toNat_natCast]
  refine to_loop0 (L := fun k acc i => laws_toSlotS.l0 k l acc i) (fun k acc i hi ha => ?_) (fun k acc ha => ?_) k hk
  · simp only [laws_toSlotS.l0, laws_toSlot.f, Option.bind_some]
    rw [if_pos (by omega), if_pos (by omega), if_pos (by omega), wrap_succ hi (by omega), rdSlL l i hi]
    rfl
  · simp only [laws_toSlotS.l0]
    rw [if_neg (by omega)]
theorem toPlan (a b : Int) (l : List SlL) (hl : l.length ≤ 1048576) (k : Nat) (hk : l.length < k) : laws_toPlan.f k a b l = some (a, b, l.map toSl) := by
  unfold laws_toPlan.f; rw [toSlotS l hl k hk]; rfl
theorem eqSlotS (l : List Sl) (hl : l.length ≤ 1048576) (k : Nat) (hk : l.length < k) : laws_eqSlotS.f k l l = some true := by
  unfold laws_eqSlotS.f
  rw [if_pos rfl]
  refine all_loopT (n := l.length) (L := fun k i => laws_eqSlotS.l0 k l l i) (fun k i hi => ?_) (fun k => ?_) k hk
  · simp only [laws_eqSlotS.l0, laws_eqSlot.f]
    rw [if_pos (by omega), if_pos (by omega), if_pos (by omega), wrap_succ hi (by omega)]
    simp
  · simp only [laws_eqSlotS.l0]
    rw [if_neg (by omega)]
theorem eqPlan (a b : Int) (l : List Sl) (hl : l.length ≤ 1048576) (k : Nat) (hk : l.length < k) : laws_eqPlan.f k a b l a b l = some true := by
  unfold laws_eqPlan.f; rw [eqSlotS l hl k hk]; simp
theorem szPlan (a b : Int) (l : List SlL) (hl : l.length ≤ 9223372036854775807) (x : Int) (hx : 0 ≤ x ∧ x ≤ 1048576) :
    (laws_szPlan.f a b l x = some (-1)) ∨ (laws_szPlan.f a b l x = some (x - l.length) ∧ (l.length : Int) ≤ x) := by
  unfold laws_szPlan.f laws_szSlotS.f
  have hw : wrap64 (x - (l.length : Int)) = x - l.length := wrap_id (by omega) (by omega)
  rw [hw]
  by_cases h : x - (l.length : Int) < 0
  · left; rw [if_pos h]; simp
  · right; rw [if_neg h]; simp only [Option.bind_some]; rw [if_neg h]; exact ⟨rfl, by omega⟩
def slotOk (x : Sl) : Bool := decide (0 ≤ x.f0 ∧ x.f0 ≤ 7) && decide (1 ≤ x.f1 ∧ x.f1 ≤ 1000000)
def slotsOk (l : List Sl) : Bool := (List.range l.length).all fun i => match l[i]? with | some x => slotOk x | none => true
def planOk (st gap : Int) (l : List Sl) : Bool := decide (0 ≤ st ∧ st ≤ 1000000000000) && decide (0 ≤ gap ∧ gap ≤ 100000) && decide ((1 : Int) ≤ l.length ∧ (l.length : Int) ≤ 12) && slotsOk l
theorem slotsOk_get {l : List Sl} (h : slotsOk l = true) (i : Nat) (hi : i < l.length) : 0 ≤ l[i].f0 ∧ l[i].f0 ≤ 7 ∧ 1 ≤ l[i].f1 ∧ l[i].f1 ≤ 1000000 := by
  unfold slotsOk at h; rw [all_iff] at h
  have := h i hi
  rw [List.getElem?_eq_getElem hi] at this
  simp [slotOk] at this; omega
theorem planOk_iff (st gap : Int) (l : List Sl) : planOk st gap l = true ↔ (0 ≤ st ∧ st ≤ 1000000000000) ∧ (0 ≤ gap ∧ gap ≤ 100000) ∧ (1 ≤ l.length ∧ l.length ≤ 12) ∧ slotsOk l = true := by
  unfold planOk; simp only [Bool.and_eq_true, decide_eq_true_eq]; constructor
  · rintro ⟨⟨⟨h1, h2⟩, h3⟩, h4⟩; exact ⟨h1, h2, by omega, h4⟩
  · rintro ⟨h1, h2, h3, h4⟩; exact ⟨⟨⟨h1, h2⟩, by omega⟩, h4⟩
theorem iIndexSlot (l : List Sl) (hl : l.length ≤ 1048576) (k : Nat) (hk : l.length < k) : ∃ r, slices_IndexFunc_Slot.f k l = some r ∧ decide (r ≥ 0) = !slotsOk l := by
  have h1 : ∀ x : Sl, impl_PlanOk_1.f x.f0 x.f1 = some (!slotOk x) := by
    intro x; unfold impl_PlanOk_1.f slotOk; simp only [isNode, in_, Option.bind_some]
    cases decide (0 ≤ x.f0 ∧ x.f0 ≤ 7) <;> simp
  unfold slices_IndexFunc_Slot.f
  have := find_loop0 (n := l.length) (L := fun k i => slices_IndexFunc_Slot.l0 k l (l.length : Int) i) (Q := fun i => match l[i]? with | some x => !slotOk x | none => false) (r := fun i => (i : Int)) (e := -1) (c := 0) (fun k i hi _ => ?_) (fun k => ?_) k (by omega)
  · refine ⟨_, this, ?_⟩
    rcases first_of (Q := fun i => match l[i]? with | some x => !slotOk x | none => false) l.length with ⟨j, h2, h3, h4⟩ | h2
    · rw [found_some h2 h3 h4]
      have : slotsOk l = false := by
        cases hs : slotsOk l with
        | false => rfl
        | true =>
          unfold slotsOk at hs; rw [all_iff] at hs
          have := hs j h2
          rw [List.getElem?_eq_getElem h2] at this h3
          simp at this h3; rw [this] at h3; cases h3
      rw [this]; simp
    · rw [found_none h2]
      have : slotsOk l = true := by
        unfold slotsOk; rw [all_iff]; intro i hi
        have := h2 i hi
        rw [List.getElem?_eq_getElem hi] at this ⊢
        simpa using this
      rw [this]; simp
  · simp only [slices_IndexFunc_Slot.l0]
    rw [if_pos (by omega), if_pos (by omega), if_pos (by omega), wrap_succ hi (by omega), rdSl l i hi, h1, List.getElem?_eq_getElem hi]
    rfl
  · simp only [slices_IndexFunc_Slot.l0]
    rw [if_neg (by omega)]
theorem iPlanOk (st gap : Int) (l : List Sl) (hl : l.length ≤ 1048576) (k : Nat) (hk : l.length < k) : impl_PlanOk.f k st gap l = some (planOk st gap l) := by
  obtain ⟨r, h1, h2⟩ := iIndexSlot l hl k hk
  unfold impl_PlanOk.f planOk slices_ContainsFunc_Slot.f; simp only [isTime, in_, h1, h2, Option.bind_some]
  cases decide (0 ≤ st ∧ st ≤ 1000000000000) <;> cases decide (0 ≤ gap ∧ gap ≤ 100000) <;> cases decide ((1 : Int) ≤ l.length ∧ (l.length : Int) ≤ 12) <;> simp
theorem sPlanOk (st gap : Int) (l : List Sl) (hl : l.length ≤ 1048576) (k : Nat) (hk : l.length + 1 < k) : spec_PlanOk.f k st gap l = some (planOk st gap l) := by
  obtain ⟨k, rfl⟩ : ∃ j, k = j + 1 := ⟨k - 1, by omega⟩
  have hL : spec_PlanOk.l0 k 0 st gap l = some (slotsOk l) := by
    unfold slotsOk
    have := all_loop0 (n := l.length) (L := fun k i => spec_PlanOk.l0 k i st gap l) (Q := fun i => match l[i]? with | some x => slotOk x | none => true) (e := true) (fun k i hi => ?_) (fun k => ?_) k (by omega)
    · simpa using this
    · simp only [spec_PlanOk.l0, l4Node, l1In, Option.bind_some]
      rw [if_pos (by omega), if_pos (by omega), wrap_succ hi (by omega), rdSl l i hi, List.getElem?_eq_getElem hi]
      simp only [slotOk]
      by_cases h1 : (0 ≤ l[i].f0 ∧ l[i].f0 ≤ 7) <;> by_cases h2 : (1 ≤ l[i].f1 ∧ l[i].f1 ≤ 1000000) <;> simp [h1, h2]
    · simp only [spec_PlanOk.l0]
      rw [if_neg (by omega)]
  unfold spec_PlanOk.f planOk; simp only [l2Time, l1In, Option.bind_some, spec_PlanOk.j0, hL]
  cases decide (0 ≤ st ∧ st ≤ 1000000000000) <;> cases decide (0 ≤ gap ∧ gap ≤ 100000) <;> cases decide ((1 : Int) ≤ l.length ∧ (l.length : Int) ≤ 12) <;> simp
def ivalOk (a b : Int) : Bool := decide (-1000000000000 ≤ a) && decide (a ≤ b) && decide (b ≤ 1000000000000)
theorem ivalOk_iff (a b : Int) : ivalOk a b = true ↔ -1000000000000 ≤ a ∧ a ≤ b ∧ b ≤ 1000000000000 := by unfold ivalOk; simp; omega
theorem sIvalOk (a b : Int) : spec_IvalOk.f a b = some (ivalOk a b) := by
  have e : ivalOk a b = decide (-1000000000000 ≤ a ∧ a ≤ b ∧ b ≤ 1000000000000) := by
    rw [Bool.eq_iff_iff, ivalOk_iff, decide_eq_true_iff]
  rw [e]
  unfold spec_IvalOk.f; simp only [l1In, Option.bind_some]
  by_cases h1 : a ≤ b
  · rw [if_pos h1]
    by_cases h2 : (-1000000000000 ≤ a ∧ a ≤ 1000000000000)
    · rw [decide_eq_true h2, if_pos rfl]; congr 1; rw [decide_eq_decide]; omega
    · rw [decide_eq_false h2, if_neg (by decide)]; congr 1; symm; apply decide_eq_false; omega
  · rw [if_neg h1]; congr 1; symm; apply decide_eq_false; omega
theorem iIvalOk (a b : Int) : impl_IvalOk.f a b = some (ivalOk a b) := by
  unfold impl_IvalOk.f ivalOk
  by_cases h1 : a ≤ b <;> by_cases h2 : -1000000000000 ≤ a <;> by_cases h3 : b ≤ 1000000000000 <;> simp [h1, h2, h3]
def ivalT (a b : Int) : Int × Int × Bool := if ivalOk a b = true then (a, b, true) else (0, 0, false)
theorem sTold (a b : Int) : spec_l1Told.f a b = some (ivalT a b) := by
  unfold spec_l1Told.f ivalT; rw [sIvalOk]; simp only [Option.bind_some]; split <;> rfl
theorem iIval (a b : Int) : impl_ival.f a b = some (ivalT a b) := by
  unfold impl_ival.f ivalT; rw [iIvalOk]; simp only [Option.bind_some]; split <;> rfl
def uptoL (gap : Int) : List Sl → Int
  | [] => 0
  | x :: xs => x.f1 + gap + uptoL gap xs
theorem uptoL_append (gap : Int) (a b : List Sl) : uptoL gap (a ++ b) = uptoL gap a + uptoL gap b := by
  induction a with
  | nil => simp [uptoL]
  | cons x xs ih => simp only [List.cons_append, uptoL, ih]; omega
def upto (gap : Int) (l : List Sl) (n : Nat) : Int := uptoL gap (l.take n)
theorem upto_zero (gap : Int) (l : List Sl) : upto gap l 0 = 0 := rfl
theorem upto_succ (gap : Int) (l : List Sl) (i : Nat) (h : i < l.length) : upto gap l (i + 1) = upto gap l i + (l[i].f1 + gap) := by
  unfold upto; rw [List.take_succ_eq_append_getElem h, uptoL_append]; simp [uptoL]
def round (gap : Int) (l : List Sl) : Int := upto gap l l.length
theorem upto_bd {st gap : Int} {l : List Sl} (h : planOk st gap l = true) : ∀ n, n ≤ l.length → (n : Int) ≤ upto gap l n ∧ upto gap l n ≤ 1100000 * n := by
  rw [planOk_iff] at h
  intro n
  induction n with
  | zero => intro _; rw [upto_zero]; omega
  | succ n ih =>
    intro hn
    have h1 := ih (by omega)
    have h2 := slotsOk_get h.2.2.2 n (by omega)
    rw [upto_succ gap l n (by omega)]
    omega
theorem round_bd {st gap : Int} {l : List Sl} (h : planOk st gap l = true) : 1 ≤ round gap l ∧ round gap l ≤ 13200000 := by
  have h1 := upto_bd h l.length (Nat.le_refl _)
  rw [planOk_iff] at h
  unfold round; omega
theorem upto_mono {st gap : Int} {l : List Sl} (h : planOk st gap l = true) (i : Nat) : ∀ j, (hj : i < j) → (hl : j ≤ l.length) → upto gap l i + (l[i]'(by omega)).f1 + gap ≤ upto gap l j := by
  have h' := h
  rw [planOk_iff] at h'
  intro j
  induction j with
  | zero => intro hj; omega
  | succ j ih =>
    intro hj hl
    rw [upto_succ gap l j (by omega)]
    have h2 := slotsOk_get h'.2.2.2 j (by omega)
    rcases Nat.lt_or_ge i j with c | c
    · have := ih c (by omega); omega
    · obtain rfl : i = j := by omega
      omega
theorem iFrom {st gap : Int} {l : List Sl} (h : planOk st gap l = true) (n : Nat) (hn : n ≤ l.length) (k : Nat) (hk : 20 ≤ k) : impl_Plan_from.f k st gap l (n : Int) = some (upto gap l n) := by
  have h' := h
  rw [planOk_iff] at h'
  unfold impl_Plan_from.f
  rw [if_pos (by omega), if_pos (by omega)]
  simp only [Option.bind_some, Int.toNat_natCast]
  have hy : (l.take n).length = n := by simp; omega
  rw [hy]
  refine track_loop0 (n := n) (c := 0) (L := fun k s i => impl_Plan_from.l0 k s (l.take n) (n : Int) i st gap l) (F := fun i => upto gap l i) (fun k i hi _ => ?_) (fun k _ => ?_) k (by omega)
  · simp only [impl_Plan_from.l0]
    have hb := upto_bd h i (by omega)
    have hs := slotsOk_get h'.2.2.2 i (by omega)
    rw [if_pos (by omega), if_pos (by omega), if_pos (by omega), wrap_succ hi (by omega), rdSl (l.take n) i (by omega), List.getElem_take, upto_succ gap l i (by omega), wrap_id (x := l[i].f1 + gap) (by omega) (by omega), wrap_id (by omega) (by omega)]
  · simp only [impl_Plan_from.l0]
    rw [if_neg (by omega)]
theorem iRound {st gap : Int} {l : List Sl} (h : planOk st gap l = true) (k : Nat) (hk : 20 ≤ k) : impl_Plan_round.f k st gap l = some (round gap l) := by
  unfold impl_Plan_round.f; rw [iFrom h l.length (Nat.le_refl _) k hk]; rfl
theorem sUpto {st gap : Int} {l : List Sl} (h : planOk st gap l = true) (n : Nat) (hn : n ≤ l.length) (k : Nat) (hk : 20 ≤ k) : spec_l13Upto.f k st gap l (n : Int) = some (upto gap l n) := by
  have h' := h
  rw [planOk_iff] at h'
  unfold spec_l13Upto.f
  refine track_loop0 (n := n) (c := 0) (L := fun k s i => spec_l13Upto.l0 k (n : Int) s i st gap l) (F := fun i => upto gap l i) (fun k i hi _ => ?_) (fun k _ => ?_) k (by omega)
  · simp only [spec_l13Upto.l0]
    have hb := upto_bd h i (by omega)
    have hs := slotsOk_get h'.2.2.2 i (by omega)
    rw [if_pos (by omega), if_pos (by omega), if_pos (by omega), wrap_succ hi (by omega), rdSl l i (by omega), upto_succ gap l i (by omega), wrap_id (x := upto gap l i + l[i].f1) (by omega) (by omega), wrap_id (by omega) (by omega)]
    congr 1; omega
  · simp only [spec_l13Upto.l0]
    rw [if_neg (by omega)]
theorem sRoundOf' {st gap : Int} {l : List Sl} (h : planOk st gap l = true) (k : Nat) (hk : 20 ≤ k) : spec_RoundOf.f k st gap l = some (round gap l) := by
  have h' := h
  rw [planOk_iff] at h'
  unfold spec_RoundOf.f; rw [sPlanOk st gap l (by omega) k (by omega), h]
  simp only [Option.bind_some]
  rw [if_pos trivial, sUpto h l.length (Nat.le_refl _) k (by omega)]; rfl
def isSlot (st gap : Int) (l : List Sl) (i : Int) : Bool := planOk st gap l && decide (0 ≤ i ∧ i < l.length)
theorem isSlot_iff (st gap : Int) (l : List Sl) (i : Int) : isSlot st gap l i = true ↔ planOk st gap l = true ∧ 0 ≤ i ∧ i < l.length := by unfold isSlot; simp
theorem sSlot (st gap : Int) (l : List Sl) (hl : l.length ≤ 1048576) (i : Int) (k : Nat) (hk : 1050000 ≤ k) : spec_l13Slot.f k st gap l i = some (isSlot st gap l i) := by
  unfold spec_l13Slot.f isSlot; rw [sPlanOk st gap l hl k (by omega)]
  simp only [Option.bind_some, l1In]
  rw [wrap_id (by omega) (by omega)]
  cases planOk st gap l with
  | false => rfl
  | true => rw [if_pos rfl, Bool.true_and]; congr 1; rw [decide_eq_decide]; omega
theorem sSlot' {st gap : Int} {l : List Sl} (h : planOk st gap l = true) (i : Nat) (hi : i < l.length) (k : Nat) (hk : 20 ≤ k) : spec_l13Slot.f k st gap l (i : Int) = some true := by
  have h' := h
  rw [planOk_iff] at h'
  unfold spec_l13Slot.f; rw [sPlanOk st gap l (by omega) k (by omega), h]
  simp only [Option.bind_some, l1In]
  rw [wrap_id (by omega) (by omega), if_pos trivial, decide_eq_true (by omega)]
theorem iSlot (st gap : Int) (l : List Sl) (hl : l.length ≤ 1048576) (i : Int) (k : Nat) (hk : 1050000 ≤ k) : impl_isSlot.f k st gap l i = some (isSlot st gap l i) := by
  unfold impl_isSlot.f isSlot; rw [iPlanOk st gap l hl k (by omega)]
  simp only [Option.bind_some, in_]
  rw [wrap_id (by omega) (by omega)]
  cases planOk st gap l with
  | false => rfl
  | true => rw [if_pos rfl, Bool.true_and]; congr 1; rw [decide_eq_decide]; omega
theorem iSlot' {st gap : Int} {l : List Sl} (h : planOk st gap l = true) (i : Nat) (hi : i < l.length) (k : Nat) (hk : 20 ≤ k) : impl_isSlot.f k st gap l (i : Int) = some true := by
  have h' := h
  rw [planOk_iff] at h'
  unfold impl_isSlot.f; rw [iPlanOk st gap l (by omega) k (by omega), h]
  simp only [Option.bind_some, in_]
  rw [wrap_id (by omega) (by omega), if_pos trivial, decide_eq_true (by omega)]
def occ (st gap : Int) (l : List Sl) (i : Nat) (q : Int) : Int × Int × Bool := if 0 ≤ q ∧ q ≤ 1000000000000 / round gap l then ivalT (st + q * round gap l + upto gap l i) (st + q * round gap l + upto gap l i + (match l[i]? with | some x => x.f1 | none => 0)) else (0, 0, false)
def occurrence (st gap : Int) (l : List Sl) (i q : Int) : Int × Int × Bool := if isSlot st gap l i = true then occ st gap l i.toNat q else (0, 0, false)
theorem q_bd {r q : Int} (hr : 1 ≤ r) (h : 0 ≤ q ∧ q ≤ 1000000000000 / r) : 0 ≤ q * r ∧ q * r ≤ 1000000000000 ∧ q ≤ 1000000000000 := by
  have h1 : q * r ≤ 1000000000000 := Int.le_trans (Int.mul_le_mul_of_nonneg_right h.2 (by omega)) (Int.ediv_mul_le _ (by omega))
  have h2 : 0 ≤ q * r := Int.mul_nonneg h.1 (by omega)
  have h3 : q * 1 ≤ q * r := Int.mul_le_mul_of_nonneg_left hr h.1
  omega
theorem div_bd {r : Int} (hr : 1 ≤ r) : 0 ≤ (1000000000000 : Int) / r ∧ (1000000000000 : Int) / r ≤ 1000000000000 :=
  ⟨Int.ediv_nonneg (by omega) (by omega), Int.ediv_le_self _ (by omega)⟩
theorem occ_told {st gap : Int} {l : List Sl} (h : planOk st gap l = true) (i : Nat) (hi : i < l.length) (q : Int) (hq : 0 ≤ q ∧ q ≤ 1000000000000 / round gap l) :
    (0 ≤ st + q * round gap l + upto gap l i ∧ st + q * round gap l + upto gap l i + l[i].f1 ≤ 3000000000000) ∧ wrap64 (wrap64 (st + wrap64 (q * round gap l)) + upto gap l i) = st + q * round gap l + upto gap l i ∧ wrap64 (st + q * round gap l + upto gap l i + l[i].f1) = st + q * round gap l + upto gap l i + l[i].f1 := by
  have hr := round_bd h
  have hb := q_bd hr.1 hq
  have hu := upto_bd h i (by omega)
  rw [planOk_iff] at h
  have hs := slotsOk_get h.2.2.2 i hi
  refine ⟨by omega, ?_, wrap_id (by omega) (by omega)⟩
  rw [wrap_id (x := q * round gap l) (by omega) (by omega), wrap_id (x := st + q * round gap l) (by omega) (by omega), wrap_id (by omega) (by omega)]
theorem sOcc {st gap : Int} {l : List Sl} (h : planOk st gap l = true) (i : Nat) (hi : i < l.length) (q : Int) (k : Nat) (hk : 30 ≤ k) : spec_Occurrence.f k st gap l (i : Int) q = some (occ st gap l i q) := by
  obtain ⟨k, rfl⟩ : ∃ j, k = j + 1 := ⟨k - 1, by omega⟩
  have hr := round_bd h
  have hd := div_bd hr.1
  unfold spec_Occurrence.f occ
  rw [sSlot' h i hi _ (by omega), sRoundOf' h _ (by omega)]
  simp only [Option.bind_some, l1In, spec_Occurrence.j0, if_true]
  rw [sRoundOf' h _ (by omega), sUpto h i (by omega) _ (by omega)]
  simp only [Option.bind_some]
  rw [if_neg (show ¬ round gap l = 0 by omega), Int.tdiv_eq_ediv_of_nonneg (by omega : (0 : Int) ≤ 1000000000000), wrap_id (x := 1000000000000 / round gap l) (by omega) (by omega), if_pos (show (0 : Int) ≤ i by omega), if_pos (show (i : Int) < l.length by omega), rdSl l i hi, List.getElem?_eq_getElem hi]
  by_cases hq : 0 ≤ q ∧ q ≤ 1000000000000 / round gap l
  · have ht := occ_told h i hi q hq
    have hb := q_bd hr.1 hq
    rw [decide_eq_true (by omega : 0 ≤ q ∧ q ≤ 1000000000000), if_pos rfl, decide_eq_false (by omega), if_neg (by decide), if_pos hq, ht.2.1, ht.2.2, sTold]
    rfl
  · rw [if_neg hq]
    by_cases h1 : 0 ≤ q ∧ q ≤ 1000000000000
    · rw [decide_eq_true h1, if_pos rfl, decide_eq_true (by omega), if_pos rfl]
    · rw [decide_eq_false h1]; rfl
theorem iOcc {st gap : Int} {l : List Sl} (h : planOk st gap l = true) (i : Nat) (hi : i < l.length) (q : Int) (k : Nat) (hk : 30 ≤ k) : impl_Occurrence.f k st gap l (i : Int) q = some (occ st gap l i q) := by
  obtain ⟨k, rfl⟩ : ∃ j, k = j + 1 := ⟨k - 1, by omega⟩
  have hr := round_bd h
  have hd := div_bd hr.1
  unfold impl_Occurrence.f occ
  rw [iSlot' h i hi _ (by omega), iRound h _ (by omega)]
  simp only [Option.bind_some, in_, impl_Occurrence.j0, if_true]
  rw [iRound h _ (by omega), iFrom h i (by omega) _ (by omega)]
  simp only [Option.bind_some]
  rw [if_neg (show ¬ round gap l = 0 by omega), Int.tdiv_eq_ediv_of_nonneg (by omega : (0 : Int) ≤ 1000000000000), wrap_id (x := 1000000000000 / round gap l) (by omega) (by omega), if_pos (show (0 : Int) ≤ i by omega), if_pos (show (i : Int) < l.length by omega), rdSl l i hi, List.getElem?_eq_getElem hi]
  by_cases hq : 0 ≤ q ∧ q ≤ 1000000000000 / round gap l
  · have ht := occ_told h i hi q hq
    rw [decide_eq_true hq, if_neg (by decide), if_pos hq, ht.2.1, ht.2.2, iIval]
    rfl
  · rw [if_neg hq, decide_eq_false hq]; rfl
theorem sOccurrence (st gap : Int) (l : List Sl) (hl : l.length ≤ 1048576) (i q : Int) (k : Nat) (hk : 1050100 ≤ k) : spec_Occurrence.f k st gap l i q = some (occurrence st gap l i q) := by
  unfold occurrence
  cases h : isSlot st gap l i with
  | false =>
    obtain ⟨k, rfl⟩ : ∃ j, k = j + 1 := ⟨k - 1, by omega⟩
    unfold spec_Occurrence.f
    rw [sSlot st gap l hl i _ (by omega), h]
    simp only [Option.bind_some, spec_Occurrence.j0]
    rfl
  | true =>
    rw [isSlot_iff] at h
    obtain ⟨n, rfl⟩ := Int.eq_ofNat_of_zero_le h.2.1
    rw [sOcc h.1 n (by omega) q k (by omega)]; rfl
theorem iOccurrence (st gap : Int) (l : List Sl) (hl : l.length ≤ 1048576) (i q : Int) (k : Nat) (hk : 1050100 ≤ k) : impl_Occurrence.f k st gap l i q = some (occurrence st gap l i q) := by
  unfold occurrence
  cases h : isSlot st gap l i with
  | false =>
    obtain ⟨k, rfl⟩ : ∃ j, k = j + 1 := ⟨k - 1, by omega⟩
    unfold impl_Occurrence.f
    rw [iSlot st gap l hl i _ (by omega), h]
    simp only [Option.bind_some, impl_Occurrence.j0]
    rfl
  | true =>
    rw [isSlot_iff] at h
    obtain ⟨n, rfl⟩ := Int.eq_ofNat_of_zero_le h.2.1
    rw [iOcc h.1 n (by omega) q k (by omega)]; rfl
end Go.Proofs.Ytjlmfnpgcmmdnaa.C
namespace Go.Proofs.Ytjlmfnpgcmmdnaa.P
open Go.RowKit Go.Proofs.YtjlmfnpgcmmdnaaW.PrintWords Go.Proofs.YtjlmfnpgcmmdnaaW.PrintLast Go.Proofs.YtjlmfnpgcmmdnaaW.PrintMore
attribute [local go_sem] max2_int min2_int max_two min_two max_three min_three max_four min_four
set_option linter.unusedVariables false
set_option linter.unusedSimpArgs false
end Go.Proofs.Ytjlmfnpgcmmdnaa.P

namespace Go.Proofs.Ytjlmfnpgcmmdnaa.C
open Go.RowKit Go.Proofs.Ytjlmfnpgcmmdnaa.P Go.Proofs.Ytjlmfnpgcmmdnaa.G Go.Proofs.YtjlmfnpgcmmdnaaW.PrintMore
def inS (gap : Int) (l : List Sl) (left : Int) (i : Nat) : Bool := decide (upto gap l i ≤ left) && decide (left < upto gap l (i + 1) - gap)
theorem inS_iff {gap : Int} {l : List Sl} {left : Int} {i : Nat} (hi : i < l.length) : inS gap l left i = true ↔ upto gap l i ≤ left ∧ left < upto gap l i + l[i].f1 := by
  unfold inS; rw [upto_succ gap l i hi]; simp; omega
theorem inS_one {st gap : Int} {l : List Sl} (h : planOk st gap l = true) {left : Int} {i j : Nat} (hi : i < l.length) (hj : j < l.length) (h1 : inS gap l left i = true) (h2 : inS gap l left j = true) : i = j := by
  rw [inS_iff hi] at h1; rw [inS_iff hj] at h2
  rcases Nat.lt_trichotomy i j with c | c | c
  · have := upto_mono h i j c (by omega); rw [planOk_iff] at h; omega
  · exact c
  · have := upto_mono h j i c (by omega); rw [planOk_iff] at h; omega
def slotAtQ (st gap : Int) (l : List Sl) (t : Int) : Int × Int × Bool :=
  found (inS gap l ((t - st) % round gap l)) (fun i => if (occ st gap l i ((t - st) / round gap l)).2.2 = true then ((i : Int), (t - st) / round gap l, true) else (0, 0, false)) (0, 0, false) (List.range l.length)
def slotAt (st gap : Int) (l : List Sl) (t : Int) : Int × Int × Bool := if (planOk st gap l && timeOk t && decide (st ≤ t)) = true then slotAtQ st gap l t else (0, 0, false)
theorem when_q {st gap : Int} {l : List Sl} (h : planOk st gap l = true) {t : Int} (ht : 0 ≤ t ∧ t ≤ 1000000000000) (hs : st ≤ t) :
    0 ≤ (t - st) / round gap l ∧ (t - st) / round gap l ≤ 1000000000000 / round gap l ∧ (t - st) / round gap l ≤ 1000000000000 ∧ 0 ≤ (t - st) % round gap l ∧ (t - st) % round gap l < round gap l ∧ (t - st) / round gap l * round gap l + (t - st) % round gap l = t - st := by
  have hr := round_bd h
  rw [planOk_iff] at h
  have h1 := Int.mul_ediv_add_emod (t - st) (round gap l)
  rw [Int.mul_comm] at h1
  refine ⟨Int.ediv_nonneg (by omega) (by omega), Int.ediv_le_ediv (by omega) (by omega), ?_, Int.emod_nonneg _ (by omega), Int.emod_lt_of_pos _ (by omega), h1⟩
  have := Int.ediv_le_self (round gap l) (show 0 ≤ t - st by omega); omega
theorem occ_eq {st gap : Int} {l : List Sl} {i : Nat} (hi : i < l.length) {q : Int} (hq : 0 ≤ q ∧ q ≤ 1000000000000 / round gap l) : occ st gap l i q = ivalT (st + q * round gap l + upto gap l i) (st + q * round gap l + upto gap l i + l[i].f1) := by
  unfold occ; rw [if_pos hq, List.getElem?_eq_getElem hi]
theorem ivalT_ok {a b : Int} (h : (ivalT a b).2.2 = true) : ivalT a b = (a, b, true) ∧ ivalOk a b = true := by
  unfold ivalT at h ⊢
  cases hv : ivalOk a b with
  | true => exact ⟨rfl, rfl⟩
  | false => rw [hv] at h; simp at h
theorem occ_in {st gap : Int} {l : List Sl} (h : planOk st gap l = true) {t : Int} (ht : 0 ≤ t ∧ t ≤ 1000000000000) (hs : st ≤ t) (i : Nat) (hi : i < l.length) (ho : (occ st gap l i ((t - st) / round gap l)).2.2 = true) :
    ((occ st gap l i ((t - st) / round gap l)).1 ≤ t ∧ t < (occ st gap l i ((t - st) / round gap l)).2.1) ↔ inS gap l ((t - st) % round gap l) i = true := by
  have hq := when_q h ht hs
  rw [inS_iff hi]
  rw [occ_eq hi ⟨hq.1, hq.2.1⟩] at ho ⊢
  rw [(ivalT_ok ho).1]
  simp only
  omega
theorem iSlotAtQ {st gap : Int} {l : List Sl} (h : planOk st gap l = true) {t : Int} (ht : 0 ≤ t ∧ t ≤ 1000000000000) (hs : st ≤ t) (k : Nat) (hk : 60 ≤ k) : impl_SlotAt.j0 k t false st gap l = some (slotAtQ st gap l t) := by
  obtain ⟨k, rfl⟩ : ∃ j, k = j + 1 := ⟨k - 1, by omega⟩
  have hr := round_bd h
  have hq := when_q h ht hs
  have h' := h
  rw [planOk_iff] at h'
  simp only [impl_SlotAt.j0]
  rw [if_neg (by decide), iRound h _ (by omega)]
  simp only [Option.bind_some]
  rw [if_neg (by omega), wrap_id (x := t - st) (by omega) (by omega), Int.tdiv_eq_ediv_of_nonneg (by omega), Int.tmod_eq_emod_of_nonneg (by omega), wrap_id (by omega) (by omega)]
  rw [if_neg (by omega)]
  unfold slotAtQ
  refine find_loop0 (n := l.length) (c := 35) (L := fun k i => impl_SlotAt.l0 k ((t - st) / round gap l) ((t - st) % round gap l) l (l.length : Int) i st gap l) (fun k i hi hk => ?_) (fun k => ?_) k (by omega)
  · simp only [impl_SlotAt.l0]
    have hb := upto_bd h i (by omega)
    have hsl := slotsOk_get h'.2.2.2 i hi
    rw [if_pos (by omega), if_pos (by omega), if_pos (by omega), wrap_succ hi (by omega), rdSl l i hi, iFrom h i (by omega) _ (by omega)]
    simp only [Option.bind_some, in_]
    rw [wrap_id (x := upto gap l i + l[i].f1) (by omega) (by omega), wrap_id (x := upto gap l i + l[i].f1 - 1) (by omega) (by omega), iOcc h i hi _ _ (by omega)]
    simp only [Option.bind_some]
    cases hc : inS gap l ((t - st) % round gap l) i with
    | true =>
      have := (inS_iff hi).1 hc
      rw [decide_eq_true (by omega), if_pos rfl, if_pos rfl]
      split <;> rfl
    | false =>
      have : ¬ (upto gap l i ≤ (t - st) % round gap l ∧ (t - st) % round gap l < upto gap l i + l[i].f1) := by rw [← inS_iff hi, hc]; simp
      rw [decide_eq_false (by omega), if_neg (by decide), if_neg (by decide)]
  · simp only [impl_SlotAt.l0]
    rw [if_neg (by omega)]
theorem sSlotAtQ {st gap : Int} {l : List Sl} (h : planOk st gap l = true) {t : Int} (ht : 0 ≤ t ∧ t ≤ 1000000000000) (hs : st ≤ t) (k : Nat) (hk : 60 ≤ k) : spec_SlotAt.j0 k t false st gap l = some (slotAtQ st gap l t) := by
  obtain ⟨k, rfl⟩ : ∃ j, k = j + 1 := ⟨k - 1, by omega⟩
  have hr := round_bd h
  have hq := when_q h ht hs
  have h' := h
  rw [planOk_iff] at h'
  simp only [spec_SlotAt.j0]
  rw [if_neg (by decide), sRoundOf' h _ (by omega)]
  simp only [Option.bind_some]
  rw [if_neg (by omega), wrap_id (x := t - st) (by omega) (by omega), Int.tdiv_eq_ediv_of_nonneg (by omega), wrap_id (by omega) (by omega)]
  have hL := find_loop0 (n := l.length) (c := 35) (L := fun k i => spec_SlotAt.l0 k t ((t - st) / round gap l) i st gap l) (Q := fun i => (occ st gap l i ((t - st) / round gap l)).2.2 && inS gap l ((t - st) % round gap l) i) (r := fun i => ((i : Int), (t - st) / round gap l, true)) (e := (0, 0, false)) (fun k i hi hk => ?_) (fun k => ?_) k (by omega)
  · rw [hL]
    congr 1
    unfold slotAtQ
    rcases first_of (Q := inS gap l ((t - st) % round gap l)) l.length with ⟨j, h1, h2, h3⟩ | h1
    · rw [found_some h1 h2 h3]
      cases ho : (occ st gap l j ((t - st) / round gap l)).2.2 with
      | true =>
        rw [if_pos rfl]
        refine found_some h1 (by rw [ho, h2]; rfl) (fun i hi => by rw [h3 i hi]; simp)
      | false =>
        rw [if_neg (by decide)]
        refine found_none (fun i hi => ?_)
        cases hc : inS gap l ((t - st) % round gap l) i with
        | false => simp
        | true => obtain rfl := inS_one h hi h1 hc h2; rw [ho]; rfl
    · rw [found_none h1]
      refine found_none (fun i hi => by rw [h1 i hi]; simp)
  · simp only [spec_SlotAt.l0]
    rw [if_pos (by omega), wrap_succ hi (by omega), sOcc h i hi _ _ (by omega)]
    simp only [Option.bind_some]
    cases ho : (occ st gap l i ((t - st) / round gap l)).2.2 with
    | false => simp
    | true =>
      have hio := occ_in h ht hs i hi ho
      rw [if_pos rfl, Bool.true_and]
      cases hc : inS gap l ((t - st) % round gap l) i with
      | true =>
        have := hio.2 hc
        rw [if_pos this.1, if_pos this.2, if_pos rfl]
      | false =>
        rw [hc] at hio
        by_cases hx : (occ st gap l i ((t - st) / round gap l)).1 ≤ t
        · rw [if_pos hx, if_neg (fun hy => by have := hio.1 ⟨hx, hy⟩; cases this), if_neg (by decide)]
        · rw [if_neg hx, if_neg (by decide)]
  · simp only [spec_SlotAt.l0]
    rw [if_neg (by omega)]
theorem iSlotAt (st gap : Int) (l : List Sl) (hl : l.length ≤ 1048576) (t : Int) (k : Nat) (hk : 1050000 ≤ k) : impl_SlotAt.f k st gap l t = some (slotAt st gap l t) := by
  have hj : ∀ k, 1 ≤ k → impl_SlotAt.j0 k t true st gap l = some (0, 0, false) := fun k hk => by
    obtain ⟨k, rfl⟩ : ∃ j, k = j + 1 := ⟨k - 1, by omega⟩
    simp only [impl_SlotAt.j0]; rfl
  unfold impl_SlotAt.f slotAt
  rw [iPlanOk st gap l hl k (by omega), isTime]
  simp only [Option.bind_some]
  change (if planOk st gap l = true then (if timeOk t = true then _ else _) else _) = _
  cases h : planOk st gap l with
  | false => rw [hj k (by omega)]; rfl
  | true =>
    cases h2 : timeOk t with
    | false => rw [hj k (by omega)]; rfl
    | true =>
      rw [timeOk_iff] at h2
      by_cases h3 : t < st
      · rw [decide_eq_true h3, hj k (by omega), decide_eq_false (by omega)]; rfl
      · rw [decide_eq_false h3, iSlotAtQ h h2 (by omega) k (by omega), decide_eq_true (by omega)]; rfl
theorem sSlotAt (st gap : Int) (l : List Sl) (hl : l.length ≤ 1048576) (t : Int) (k : Nat) (hk : 1050000 ≤ k) : spec_SlotAt.f k st gap l t = some (slotAt st gap l t) := by
  have hj : ∀ k, 1 ≤ k → spec_SlotAt.j0 k t true st gap l = some (0, 0, false) := fun k hk => by
    obtain ⟨k, rfl⟩ : ∃ j, k = j + 1 := ⟨k - 1, by omega⟩
    simp only [spec_SlotAt.j0]; rfl
  unfold spec_SlotAt.f slotAt
  rw [sPlanOk st gap l hl k (by omega), l2Time]
  simp only [Option.bind_some]
  change (if planOk st gap l = true then (if timeOk t = true then _ else _) else _) = _
  cases h : planOk st gap l with
  | false => rw [hj k (by omega)]; rfl
  | true =>
    cases h2 : timeOk t with
    | false => rw [hj k (by omega)]; rfl
    | true =>
      rw [timeOk_iff] at h2
      by_cases h3 : t < st
      · rw [decide_eq_true h3, hj k (by omega), decide_eq_false (by omega)]; rfl
      · rw [decide_eq_false h3, sSlotAtQ h h2 (by omega) k (by omega), decide_eq_true (by omega)]; rfl
theorem slotAt_in {st gap : Int} {l : List Sl} {t : Int} (h : (slotAt st gap l t).2.2 = true) : ∃ i : Nat, i < l.length ∧ (slotAt st gap l t).1 = (i : Int) ∧ planOk st gap l = true ∧ timeOk t = true ∧ st ≤ t ∧ (slotAt st gap l t).2.1 = (t - st) / round gap l ∧ inS gap l ((t - st) % round gap l) i = true ∧ (occ st gap l i ((t - st) / round gap l)).2.2 = true := by
  unfold slotAt at h ⊢
  split at h
  · rename_i hc
    rw [if_pos hc]
    simp only [Bool.and_eq_true, decide_eq_true_eq] at hc
    unfold slotAtQ at h ⊢
    rcases first_of (Q := inS gap l ((t - st) % round gap l)) l.length with ⟨j, h1, h2, h3⟩ | h1
    · rw [found_some h1 h2 h3] at h ⊢
      split at h
      · rename_i ho
        rw [if_pos ho]
        exact ⟨j, h1, rfl, hc.1.1, hc.1.2, hc.2, rfl, h2, ho⟩
      · simp at h
    · rw [found_none h1] at h; simp at h
  · simp at h
def inSlot (st gap : Int) (l : List Sl) (owner a b : Int) : Int × Int × Bool :=
  if (slotAt st gap l a).2.2 = true ∧ (match l[(slotAt st gap l a).1.toNat]? with | some x => x.f0 | none => -1) = owner ∧ a ≤ b ∧ b ≤ (occurrence st gap l (slotAt st gap l a).1 (slotAt st gap l a).2.1).2.1
  then ((slotAt st gap l a).1, (slotAt st gap l a).2.1, true) else (0, 0, false)
theorem sInSlot (st gap : Int) (l : List Sl) (hl : l.length ≤ 1048576) (owner a b : Int) (k : Nat) (hk : 1050200 ≤ k) : spec_InSlot.f k st gap l owner a b = some (inSlot st gap l owner a b) := by
  obtain ⟨k, rfl⟩ : ∃ j, k = j + 1 := ⟨k - 1, by omega⟩
  unfold spec_InSlot.f inSlot
  rw [sSlotAt st gap l hl a _ (by omega)]
  simp only [Option.bind_some, spec_InSlot.j0]
  rw [sOccurrence st gap l hl _ _ _ (by omega)]
  simp only [Option.bind_some, if_true]
  cases h : (slotAt st gap l a).2.2 with
  | false => simp
  | true =>
    obtain ⟨i, hi, e, _⟩ := slotAt_in h
    rw [if_pos rfl, e, if_pos (by omega), if_pos (by omega), rdSl l i hi]
    have e2 : ((i : Int)).toNat = i := by omega
    rw [e2, List.getElem?_eq_getElem hi]
    simp only
    by_cases h1 : l[i].f0 = owner
    · rw [if_pos h1]
      by_cases h2 : a > b
      · rw [decide_eq_true h2, if_pos rfl, if_neg (by omega)]
      · rw [decide_eq_false h2, if_neg (by decide)]
        by_cases h3 : b > (occurrence st gap l (i : Int) (slotAt st gap l a).2.1).2.1
        · rw [if_pos h3, if_neg (by omega)]
        · rw [if_neg h3, if_pos ⟨trivial, h1, by omega, by omega⟩]
    · rw [if_neg h1, if_neg (fun hx => h1 hx.2.1)]
theorem iInSlot (st gap : Int) (l : List Sl) (hl : l.length ≤ 1048576) (owner a b : Int) (k : Nat) (hk : 1050200 ≤ k) : impl_InSlot.f k st gap l owner a b = some (inSlot st gap l owner a b) := by
  obtain ⟨k, rfl⟩ : ∃ j, k = j + 1 := ⟨k - 1, by omega⟩
  unfold impl_InSlot.f inSlot
  rw [iSlotAt st gap l hl a _ (by omega)]
  simp only [Option.bind_some, impl_InSlot.j0]
  rw [iOccurrence st gap l hl _ _ _ (by omega)]
  simp only [Option.bind_some, if_true]
  cases h : (slotAt st gap l a).2.2 with
  | false => simp
  | true =>
    obtain ⟨i, hi, e, _⟩ := slotAt_in h
    rw [if_pos rfl, e, if_pos (by omega), if_pos (by omega), rdSl l i hi]
    have e2 : ((i : Int)).toNat = i := by omega
    rw [e2, List.getElem?_eq_getElem hi]
    simp only
    by_cases h1 : l[i].f0 = owner
    · rw [if_pos h1]
      by_cases h2 : a > b
      · rw [decide_eq_true h2, if_pos rfl, if_neg (by omega)]
      · rw [decide_eq_false h2, if_neg (by decide)]
        by_cases h3 : b > (occurrence st gap l (i : Int) (slotAt st gap l a).2.1).2.1
        · rw [if_pos h3, if_neg (by omega)]
        · rw [if_neg h3, if_pos ⟨trivial, h1, by omega, by omega⟩]
    · rw [if_neg h1, if_neg (fun hx => h1 hx.2.1)]
end Go.Proofs.Ytjlmfnpgcmmdnaa.C
namespace Go.Proofs.Ytjlmfnpgcmmdnaa.P
open Go.RowKit Go.Proofs.YtjlmfnpgcmmdnaaW.PrintWords Go.Proofs.YtjlmfnpgcmmdnaaW.PrintLast Go.Proofs.YtjlmfnpgcmmdnaaW.PrintMore
attribute [local go_sem] max2_int min2_int max_two min_two max_three min_three max_four min_four
set_option linter.unusedVariables false
set_option linter.unusedSimpArgs false
end Go.Proofs.Ytjlmfnpgcmmdnaa.P

namespace Go.Proofs.Ytjlmfnpgcmmdnaa.P
open Go.RowKit Go.Proofs.YtjlmfnpgcmmdnaaW.PrintWords Go.Proofs.YtjlmfnpgcmmdnaaW.PrintLast Go.Proofs.YtjlmfnpgcmmdnaaW.PrintMore
attribute [local go_sem] max2_int min2_int max_two min_two max_three min_three max_four min_four
set_option linter.unusedVariables false
set_option linter.unusedSimpArgs false
end Go.Proofs.Ytjlmfnpgcmmdnaa.P

namespace Go.Proofs.Ytjlmfnpgcmmdnaa.P
open Go.RowKit Go.Proofs.YtjlmfnpgcmmdnaaW.PrintWords Go.Proofs.YtjlmfnpgcmmdnaaW.PrintLast Go.Proofs.YtjlmfnpgcmmdnaaW.PrintMore
attribute [local go_sem] max2_int min2_int max_two min_two max_three min_three max_four min_four
set_option linter.unusedVariables false
set_option linter.unusedSimpArgs false
end Go.Proofs.Ytjlmfnpgcmmdnaa.P

namespace Go.Proofs.Ytjlmfnpgcmmdnaa.P
open Go.RowKit Go.Proofs.YtjlmfnpgcmmdnaaW.PrintWords Go.Proofs.YtjlmfnpgcmmdnaaW.PrintLast Go.Proofs.YtjlmfnpgcmmdnaaW.PrintMore
attribute [local go_sem] max2_int min2_int max_two min_two max_three min_three max_four min_four
set_option linter.unusedVariables false
set_option linter.unusedSimpArgs false
end Go.Proofs.Ytjlmfnpgcmmdnaa.P

namespace Go.Proofs.Ytjlmfnpgcmmdnaa.P
open Go.RowKit Go.Proofs.YtjlmfnpgcmmdnaaW.PrintWords Go.Proofs.YtjlmfnpgcmmdnaaW.PrintLast Go.Proofs.YtjlmfnpgcmmdnaaW.PrintMore
attribute [local go_sem] max2_int min2_int max_two min_two max_three min_three max_four min_four
set_option linter.unusedVariables false
set_option linter.unusedSimpArgs false
end Go.Proofs.Ytjlmfnpgcmmdnaa.P

namespace Go.Proofs.Ytjlmfnpgcmmdnaa.P
open Go.RowKit Go.Proofs.YtjlmfnpgcmmdnaaW.PrintWords Go.Proofs.YtjlmfnpgcmmdnaaW.PrintLast Go.Proofs.YtjlmfnpgcmmdnaaW.PrintMore
attribute [local go_sem] max2_int min2_int max_two min_two max_three min_three max_four min_four
set_option linter.unusedVariables false
set_option linter.unusedSimpArgs false
end Go.Proofs.Ytjlmfnpgcmmdnaa.P

