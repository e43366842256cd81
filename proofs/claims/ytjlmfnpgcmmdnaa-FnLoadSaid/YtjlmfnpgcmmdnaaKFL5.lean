/- Texts of the seat's proofs, part 5: functions of the program told as plain functions, with their contracts, and what is shown of them. No condition. -/
import Derived.Test.YtjlmfnpgcmmdnaaUKFL
import Derived.Test.YtjlmfnpgcmmdnaaKFL1
import Derived.Test.YtjlmfnpgcmmdnaaKFL4
import Derived.Test.YtjlmfnpgcmmdnaaKFL2
import Derived.Test.YtjlmfnpgcmmdnaaKFL3
import Derived.Laws.Bits128
set_option linter.unusedVariables false
set_option linter.unusedSimpArgs false
namespace Go.Proofs.Ytjlmfnpgcmmdnaa.P
open Go.RowKit Go.Proofs.YtjlmfnpgcmmdnaaW.PrintWords Go.Proofs.YtjlmfnpgcmmdnaaW.PrintLast Go.Proofs.YtjlmfnpgcmmdnaaW.PrintMore
attribute [local go_sem] max2_int min2_int max_two min_two max_three min_three max_four min_four
set_option linter.unusedVariables false
set_option linter.unusedSimpArgs false
end Go.Proofs.Ytjlmfnpgcmmdnaa.P

namespace Go.Proofs.Ytjlmfnpgcmmdnaa.P
open Go.RowKit Go.Proofs.YtjlmfnpgcmmdnaaW.PrintWords Go.Proofs.YtjlmfnpgcmmdnaaW.PrintLast Go.Proofs.YtjlmfnpgcmmdnaaW.PrintMore
attribute [local go_sem] max2_int min2_int max_two min_two max_three min_three max_four min_four
set_option linter.unusedVariables false
set_option linter.unusedSimpArgs false
end Go.Proofs.Ytjlmfnpgcmmdnaa.P

namespace Go.Proofs.Ytjlmfnpgcmmdnaa.C
open Go.RowKit Go.Proofs.Ytjlmfnpgcmmdnaa.P Go.Proofs.Ytjlmfnpgcmmdnaa.G
def ivalOk (a b : Int) : Bool := decide (-1000000000000 ≤ a) && decide (a ≤ b) && decide (b ≤ 1000000000000)
theorem ivalOk_iff (a b : Int) : ivalOk a b = true ↔ -1000000000000 ≤ a ∧ a ≤ b ∧ b ≤ 1000000000000 := by unfold ivalOk; simp; omega
theorem iIvalOk (a b : Int) : impl_IvalOk.f a b = some (ivalOk a b) := by
  unfold impl_IvalOk.f ivalOk
  by_cases h1 : a ≤ b <;> by_cases h2 : -1000000000000 ≤ a <;> by_cases h3 : b ≤ 1000000000000 <;> simp [h1, h2, h3]
end Go.Proofs.Ytjlmfnpgcmmdnaa.C
namespace Go.Proofs.Ytjlmfnpgcmmdnaa.C
open Go.RowKit Go.Proofs.Ytjlmfnpgcmmdnaa.P Go.Proofs.Ytjlmfnpgcmmdnaa.G Go.Proofs.YtjlmfnpgcmmdnaaW.PrintWords
abbrev Iv := S43
theorem rdIv (l : List Iv) (i : Nat) (h : i < l.length) : rd_T43 l (i : Int) = l[i] := by
  unfold rd_T43; simp [List.getD, h]
theorem l1Max (a b : Int) : spec_l1Max.f a b = some (mx a b) := by
  unfold spec_l1Max.f mx
  split
  · rw [if_neg (by omega)]
  · split
    · rfl
    · congr 1; omega
theorem l1Min (a b : Int) : spec_l1Min.f a b = some (mn a b) := by
  unfold spec_l1Min.f mn
  split
  · rw [if_neg (by omega)]
  · split
    · rfl
    · congr 1; omega
def timesOk (l : List Fr) (a b : Int) : Bool := busOk l && (decide (0 ≤ a) && (decide (a ≤ b) && decide (b ≤ 1000000000000)))
theorem timesOk_iff (l : List Fr) (a b : Int) : timesOk l a b = true ↔ busOk l = true ∧ 0 ≤ a ∧ a ≤ b ∧ b ≤ 1000000000000 := by unfold timesOk; simp
theorem sTimes (l : List Fr) (hl : l.length ≤ 1048576) (a b : Int) (k : Nat) (hk : l.length < k) : spec_l15Times.f k l a b = some (timesOk l a b) := by
  unfold spec_l15Times.f timesOk; rw [sBusOk l hl k hk]
  cases busOk l <;> by_cases h1 : 0 ≤ a <;> by_cases h2 : a ≤ b <;> simp [h1, h2] <;> omega
theorem iTimes (l : List Fr) (hl : l.length ≤ 1048576) (a b : Int) (k : Nat) (hk : l.length < k) : impl_areTimes.f k l a b = some (timesOk l a b) := by
  unfold impl_areTimes.f timesOk; rw [iBusOk l hl k hk]
  simp only [in_, Option.bind_some]
  cases busOk l <;> by_cases h1 : 0 ≤ a <;> by_cases h2 : a ≤ b <;> simp [h1, h2]
def qF (b : Int) (l : List Fr) (a : Int) : Nat → List Iv × Int
  | 0 => ([], a)
  | i + 1 => match l[i]? with
    | some x => (if (qF b l a i).2 < x.f3 ∧ (qF b l a i).2 < b then (qF b l a i).1 ++ [⟨(qF b l a i).2, mn x.f3 b⟩] else (qF b l a i).1, mx (qF b l a i).2 x.f4)
    | none => qF b l a i
theorem qF_succ (b : Int) (l : List Fr) (a : Int) (i : Nat) (h : i < l.length) : qF b l a (i + 1) = (if (qF b l a i).2 < l[i].f3 ∧ (qF b l a i).2 < b then (qF b l a i).1 ++ [⟨(qF b l a i).2, mn l[i].f3 b⟩] else (qF b l a i).1, mx (qF b l a i).2 l[i].f4) := by
  rw [qF, List.getElem?_eq_getElem h]
theorem qF_len (b : Int) (l : List Fr) (a : Int) : ∀ i, i ≤ l.length → (qF b l a i).1.length ≤ i := by
  intro i
  induction i with
  | zero => intro _; simp [qF]
  | succ i ih =>
    intro h
    have := ih (by omega)
    rw [qF_succ b l a i (by omega)]
    split
    · simp; omega
    · simp; omega
def quiet (l : List Fr) (a b : Int) : List Iv := if (qF b l a l.length).2 < b then (qF b l a l.length).1 ++ [⟨(qF b l a l.length).2, b⟩] else (qF b l a l.length).1
theorem quiet_len (l : List Fr) (a b : Int) : (quiet l a b).length ≤ l.length + 1 := by
  have := qF_len b l a l.length (Nat.le_refl _)
  unfold quiet; split <;> simp <;> omega
theorem frOk_get {l : List Fr} (h : busOk l = true) (i : Nat) (hi : i < l.length) : 0 ≤ l[i].f3 ∧ l[i].f3 < l[i].f4 ∧ l[i].f4 ≤ 1000000000000 := by
  unfold busOk at h
  rw [Bool.and_eq_true, all_iff] at h
  have := h.1 i hi
  unfold frOk at this
  rw [List.getElem?_eq_getElem hi] at this
  simp only [Bool.and_eq_true, frameOk, decide_eq_true_eq] at this
  omega
theorem qF_in {l : List Fr} {a b : Int} (h : timesOk l a b = true) : ∀ i, i ≤ l.length → (0 ≤ (qF b l a i).2 ∧ (qF b l a i).2 ≤ 1000000000000) ∧ ∀ y ∈ (qF b l a i).1, ivalOk y.f0 y.f1 = true := by
  rw [timesOk_iff] at h
  intro i
  induction i with
  | zero => intro _; exact ⟨by unfold qF; simp only; omega, fun y hy => by simp [qF] at hy⟩
  | succ i ih =>
    intro hi
    have h1 := ih (by omega)
    have h2 := frOk_get h.1 i (by omega)
    rw [qF_succ b l a i (by omega)]
    refine ⟨by simp only [mx]; split <;> omega, ?_⟩
    intro y hy
    simp only at hy
    split at hy
    · rename_i hc
      rw [List.mem_append] at hy
      rcases hy with hy | hy
      · exact h1.2 y hy
      · simp at hy; subst hy
        rw [ivalOk_iff]; simp only [mn]; split <;> omega
    · exact h1.2 y hy
theorem quiet_in {l : List Fr} {a b : Int} (h : timesOk l a b = true) : ∀ y ∈ quiet l a b, ivalOk y.f0 y.f1 = true := by
  have hq := qF_in h l.length (Nat.le_refl _)
  rw [timesOk_iff] at h
  intro y hy
  unfold quiet at hy
  split at hy
  · rw [List.mem_append] at hy
    rcases hy with hy | hy
    · exact hq.2 y hy
    · simp at hy; subst hy; rw [ivalOk_iff]; simp only; omega
  · exact hq.2 y hy
theorem iQuiet {l : List Fr} (hl : l.length ≤ 1048576) (a b : Int) (k : Nat) (hk : l.length < k) : impl_quiet.f k l a b = some (quiet l a b) := by
  unfold impl_quiet.f
  refine track_loop0 (n := l.length) (c := 0) (L := fun k s i => impl_quiet.l0 k s.2 b s.1 l (l.length : Int) i) (F := fun i => qF b l a i) (fun k i hi _ => ?_) (fun k _ => ?_) k (by omega)
  · simp only [impl_quiet.l0]
    have := qF_len b l a i (by omega)
    rw [if_pos (by omega), if_pos (by omega), if_pos (by omega), wrap_succ hi (by omega), rdFr l i hi, qF_succ b l a i hi]
    by_cases h : (qF b l a i).2 < l[i].f3 ∧ (qF b l a i).2 < b
    · rw [if_pos (by unfold mn; split <;> omega), if_pos (by omega), if_pos h]
    · rw [if_neg (by unfold mn; split <;> omega), if_neg h]
  · simp only [impl_quiet.l0]
    have := qF_len b l a l.length (Nat.le_refl _)
    rw [if_neg (by omega)]
    unfold quiet
    split
    · rw [if_pos (by omega)]
    · rfl
theorem sQuietL {l : List Fr} (hl : l.length ≤ 1048576) (a b : Int) (k : Nat) (hk : 2 * l.length + 2 < k) : spec_BusQuiet.l0 k l b [] a 0 = some (quiet l a b) := by
  have : ∀ d i k, i + d = l.length → 2 * d + 2 < k → spec_BusQuiet.l0 k l b (qF b l a i).1 (qF b l a i).2 (i : Int) = some (quiet l a b) := by
    intro d
    induction d with
    | zero =>
      intro i k hi hk
      obtain ⟨k, rfl⟩ : ∃ j, k = j + 1 := ⟨k - 1, by omega⟩
      obtain rfl : i = l.length := by omega
      simp only [spec_BusQuiet.l0]
      have := qF_len b l a l.length (Nat.le_refl _)
      rw [if_neg (by omega)]
      unfold quiet
      split
      · rw [if_pos (by omega)]
      · rfl
    | succ d ih =>
      intro i k hi hk
      obtain ⟨k, rfl⟩ : ∃ j, k = j + 2 := ⟨k - 2, by omega⟩
      have hi' : i < l.length := by omega
      have hn := qF_len b l a i (by omega)
      simp only [spec_BusQuiet.l0, spec_BusQuiet.j1]
      have ih' := ih (i + 1) k (by omega) (by omega)
      rw [qF_succ b l a i hi'] at ih'
      rw [if_pos (by omega), if_pos (by omega), rdFr l i hi', l1Min, l1Max, wrap_succ hi' (by omega)]
      simp only [Option.bind_some, if_pos (show (0 : Int) ≤ i by omega), if_pos (show (i : Int) < l.length by omega)]
      by_cases h1 : (qF b l a i).2 < l[i].f3
      · rw [if_pos (by omega)]
        by_cases h2 : (qF b l a i).2 < b
        · rw [if_pos ⟨h1, h2⟩] at ih'
          rw [if_pos (by simp [h2]), if_pos (by omega)]; exact ih'
        · rw [if_neg (by omega)] at ih'
          rw [if_neg (by simp [h2])]; exact ih'
      · rw [if_neg (by omega)] at ih'
        rw [if_neg (by omega), if_neg (by decide)]; exact ih'
  exact this l.length 0 k (by omega) hk
def quietOf (l : List Fr) (a b : Int) : List Iv := if timesOk l a b = true then quiet l a b else []
theorem sQuiet (l : List Fr) (hl : l.length ≤ 1048576) (a b : Int) (k : Nat) (hk : 2100000 ≤ k) : spec_BusQuiet.f k l a b = some (quietOf l a b) := by
  unfold spec_BusQuiet.f quietOf
  rw [sTimes l hl a b k (by omega), Option.bind_some, Option.bind_some]
  split
  · rw [sQuietL hl a b k (by omega)]
  · rfl
theorem iBusQuiet (l : List Fr) (hl : l.length ≤ 1048576) (a b : Int) (k : Nat) (hk : 2100000 ≤ k) : impl_BusQuiet.f k l a b = some (quietOf l a b) := by
  unfold impl_BusQuiet.f quietOf
  rw [iTimes l hl a b k (by omega), Option.bind_some]
  split
  · rw [iQuiet hl a b k (by omega)]; rfl
  · rfl
def loadF (base : Int) (q : List Iv) : Nat → Int
  | 0 => base
  | i + 1 => match q[i]? with
    | some y => wrap64 (loadF base q i - wrap64 (y.f1 - y.f0))
    | none => loadF base q i
theorem loadF_succ (base : Int) (q : List Iv) (i : Nat) (h : i < q.length) : loadF base q (i + 1) = wrap64 (loadF base q i - wrap64 (q[i].f1 - q[i].f0)) := by rw [loadF, List.getElem?_eq_getElem h]
def busLoad (l : List Fr) (a b : Int) : Int := if timesOk l a b = true then loadF (wrap64 (b - a)) (quiet l a b) (quiet l a b).length else -1
theorem sBusLoad (l : List Fr) (hl : l.length ≤ 1048576) (a b : Int) (k : Nat) (hk : 2100000 ≤ k) : spec_BusLoad.f k l a b = some (busLoad l a b) := by
  unfold spec_BusLoad.f busLoad
  rw [sTimes l hl a b k (by omega), Option.bind_some, sQuiet l hl a b k hk]
  unfold quietOf
  split
  · rename_i h
    rw [Option.bind_some]
    have hn := quiet_len l a b
    refine track_loop0 (n := (quiet l a b).length) (c := 0) (L := fun k s i => spec_BusLoad.l0 k s (quiet l a b) i) (F := fun i => loadF (wrap64 (b - a)) (quiet l a b) i) (fun k i hi _ => ?_) (fun k _ => ?_) k (by omega)
    · simp only [spec_BusLoad.l0]
      rw [if_pos (by omega), if_pos (by omega), rdIv _ i hi, wrap_succ hi (by omega), loadF_succ _ _ i hi]
    · simp only [spec_BusLoad.l0]
      rw [if_neg (by omega)]
  · rfl
theorem iBusLoad (l : List Fr) (hl : l.length ≤ 1048576) (a b : Int) (k : Nat) (hk : 2100000 ≤ k) : impl_BusLoad.f k l a b = some (busLoad l a b) := by
  unfold impl_BusLoad.f busLoad
  rw [iTimes l hl a b k (by omega), Option.bind_some, iQuiet hl a b k (by omega), Option.bind_some]
  split
  · rename_i h
    have hn := quiet_len l a b
    refine track_loop0 (n := (quiet l a b).length) (c := 0) (L := fun k s i => impl_BusLoad.l0 k s (quiet l a b) ((quiet l a b).length : Int) i) (F := fun i => loadF (wrap64 (b - a)) (quiet l a b) i) (fun k i hi _ => ?_) (fun k _ => ?_) k (by omega)
    · simp only [impl_BusLoad.l0, impl_Wide.f, iIvalOk]
      rw [if_pos (by omega), if_pos (by omega), if_pos (by omega), rdIv _ i hi, wrap_succ hi (by omega), loadF_succ _ _ i hi, quiet_in h _ (List.getElem_mem hi)]
      rfl
    · simp only [impl_BusLoad.l0]
      rw [if_neg (by omega)]
  · rfl
def sumQ : List Iv → Int
  | [] => 0
  | y :: ys => (y.f1 - y.f0) + sumQ ys
theorem sumQ_app (a : List Iv) (y : Iv) : sumQ (a ++ [y]) = sumQ a + (y.f1 - y.f0) := by
  induction a with
  | nil => simp [sumQ]
  | cons x xs ih => simp only [List.cons_append, sumQ, ih]; omega
theorem bus_sorted {l : List Fr} (h : busOk l = true) : ∀ m (hm : m < l.length) n (hn : n ≤ m), (l[n]'(by omega)).f3 ≤ l[m].f3 := by
  intro m
  induction m with
  | zero =>
    intro hm n hn
    obtain rfl : n = 0 := by omega
    exact Int.le_refl _
  | succ m ih =>
    intro hm n hn
    have h' := h
    unfold busOk at h'
    rw [Bool.and_eq_true, all_iff] at h'
    have h1 := h'.1 (m + 1) hm
    unfold frOk at h1
    rw [List.getElem?_eq_getElem hm] at h1
    simp only [Nat.add_sub_cancel, Bool.and_eq_true] at h1
    rw [List.getElem?_eq_getElem (show m < l.length by omega)] at h1
    have h2 : ¬ l[m + 1].f3 < l[m].f3 := by simpa using h1.2
    rcases Nat.lt_or_ge n (m + 1) with c | c
    · have := ih (by omega) n (by omega); omega
    · obtain rfl : n = m + 1 := by omega
      omega
def Calm (l : List Fr) (a b : Int) (y : Iv) : Prop := a ≤ y.f0 ∧ y.f0 < y.f1 ∧ y.f1 ≤ b ∧ ∀ m (hm : m < l.length), ¬ (l[m].f3 < y.f1 ∧ y.f0 < l[m].f4)
def Apart (q : List Iv) (t : Int) : Prop := (∀ j (hj : j < q.length), q[j].f1 < t) ∧ ∀ j (hj : j + 1 < q.length), (q[j]'(by omega)).f1 < q[j + 1].f0
theorem apart_app {q : List Iv} {t : Int} (h : Apart q t) (y : Iv) (hy : t ≤ y.f0) (hy2 : y.f0 < y.f1) (t' : Int) (ht : y.f1 < t') : Apart (q ++ [y]) t' := by
  constructor
  · intro j hj
    rcases Nat.lt_or_ge j q.length with c | c
    · rw [List.getElem_append_left c]; have := h.1 j c; omega
    · rw [List.getElem_append_right c]
      have : j - q.length = 0 := by simp at hj; omega
      simp [this]; omega
  · intro j hj
    rcases Nat.lt_or_ge (j + 1) q.length with c | c
    · rw [List.getElem_append_left (by omega), List.getElem_append_left c]; exact h.2 j c
    · have hl : j + 1 = q.length := by simp at hj; omega
      rw [List.getElem_append_left (by omega), List.getElem_append_right (by omega)]
      have e : j + 1 - q.length = 0 := by omega
      simp [e]
      have := h.1 j (by omega); omega
theorem apart_mono {q : List Iv} {t t' : Int} (h : Apart q t) (ht : t ≤ t') : Apart q t' := ⟨fun j hj => by have := h.1 j hj; omega, h.2⟩
theorem qF_calm {l : List Fr} {a b : Int} (h : timesOk l a b = true) : ∀ i, i ≤ l.length →
    a ≤ (qF b l a i).2 ∧ (∀ y ∈ (qF b l a i).1, Calm l a b y) ∧ Apart (qF b l a i).1 (qF b l a i).2 ∧ (∀ m (hm : m < l.length), m < i → l[m].f4 ≤ (qF b l a i).2) ∧ 0 ≤ sumQ (qF b l a i).1 ∧ sumQ (qF b l a i).1 ≤ (qF b l a i).2 - a ∧ sumQ (qF b l a i).1 ≤ b - a := by
  have h0 := h
  rw [timesOk_iff] at h0
  intro i
  induction i with
  | zero =>
    intro _
    refine ⟨by simp [qF], fun y hy => by simp [qF] at hy, ⟨fun j hj => by simp [qF] at hj, fun j hj => by simp [qF] at hj⟩, fun m hm hm2 => by omega, ?_, ?_, ?_⟩ <;> simp [qF, sumQ] <;> omega
  | succ i ih =>
    intro hi
    obtain ⟨h1, h2, h3, h4, h5, h6, h7⟩ := ih (by omega)
    have hf := frOk_get h0.1 i (by omega)
    rw [qF_succ b l a i (by omega)]
    have hmx : (qF b l a i).2 ≤ mx (qF b l a i).2 l[i].f4 ∧ l[i].f4 ≤ mx (qF b l a i).2 l[i].f4 := by unfold mx; split <;> omega
    have h4' : ∀ m (hm : m < l.length), m < i + 1 → l[m].f4 ≤ mx (qF b l a i).2 l[i].f4 := by
      intro m hm hm2
      rcases Nat.lt_or_ge m i with c | c
      · have := h4 m hm c; omega
      · obtain rfl : m = i := by omega
        exact hmx.2
    by_cases hc : (qF b l a i).2 < l[i].f3 ∧ (qF b l a i).2 < b
    · simp only [if_pos hc]
      have hmn : mn l[i].f3 b ≤ l[i].f3 ∧ mn l[i].f3 b ≤ b ∧ (qF b l a i).2 < mn l[i].f3 b := by unfold mn; split <;> omega
      refine ⟨by omega, ?_, apart_app h3 _ (by simp only; omega) (by simp only; omega) _ (by simp only; omega), h4', ?_, ?_, ?_⟩
      · intro y hy
        rw [List.mem_append] at hy
        rcases hy with hy | hy
        · exact h2 y hy
        · simp at hy; subst hy
          refine ⟨h1, by simp only; omega, by simp only; omega, fun m hm hcl => ?_⟩
          simp only at hcl
          rcases Nat.lt_or_ge m i with c | c
          · have := h4 m hm c; omega
          · have := bus_sorted h0.1 m hm i c; omega
      · rw [sumQ_app]; simp only; omega
      · rw [sumQ_app]; simp only; omega
      · rw [sumQ_app]; simp only; omega
    · simp only [if_neg hc]
      exact ⟨by omega, h2, apart_mono h3 hmx.1, h4', h5, by omega, h7⟩
theorem quiet_calm {l : List Fr} {a b : Int} (h : timesOk l a b = true) :
    (∀ y ∈ quiet l a b, Calm l a b y) ∧ (∀ j (hj : j + 1 < (quiet l a b).length), ((quiet l a b)[j]'(by omega)).f1 < (quiet l a b)[j + 1].f0) ∧ 0 ≤ sumQ (quiet l a b) ∧ sumQ (quiet l a b) ≤ b - a := by
  obtain ⟨h1, h2, h3, h4, h5, h6, h7⟩ := qF_calm h l.length (Nat.le_refl _)
  have h0 := h
  rw [timesOk_iff] at h0
  unfold quiet
  by_cases hc : (qF b l a l.length).2 < b
  · simp only [if_pos hc]
    refine ⟨?_, (apart_app h3 ⟨(qF b l a l.length).2, b⟩ (by simp only; omega) (by simp only; omega) (b + 1) (by simp only; omega)).2, ?_, ?_⟩
    · intro y hy
      rw [List.mem_append] at hy
      rcases hy with hy | hy
      · exact h2 y hy
      · simp at hy; subst hy
        refine ⟨h1, by simp only; omega, by simp only; omega, fun m hm hcl => ?_⟩
        simp only at hcl
        have := h4 m hm (by omega); omega
    · rw [sumQ_app]; simp only; omega
    · rw [sumQ_app]; simp only; omega
  · simp only [if_neg hc]
    exact ⟨h2, h3.2, h5, h7⟩
theorem and255 (n : Int) : Go.bits .and .i64 n 255 = n % 256 := by
  have h : (BitVec.ofInt 64 255).toNat = 2 ^ 8 - 1 := by decide
  have key : (BitVec.ofInt 64 n &&& BitVec.ofInt 64 255).toNat = (n % ((2 ^ 64 : Nat) : Int)).toNat % 2 ^ 8 := by
    rw [BitVec.toNat_and, BitVec.toNat_ofInt, h, Nat.and_two_pow_sub_one_eq_mod]
  show IntKind.i64.wrap ((BitVec.ofInt 64 n &&& BitVec.ofInt 64 255).toNat : Nat) = n % 256
  rw [key, IntKind.wrap_i64]
  omega
def At (s : List Int) (p : Int) : Prop := 0 ≤ p ∧ p ≤ s.length ∧ s.length ≤ 1048576
theorem dByte (s : List Int) (p z : Int) (h : At s p) : ∃ b p' z', spec_l1Byte.f s p z = some (b, p', z') ∧ At s p' ∧ 0 ≤ b ∧ b ≤ 255 := by
  unfold At at *
  unfold spec_l1Byte.f
  by_cases hp : p < (s.length : Int)
  · rw [if_pos hp, if_pos h.1, and255]
    refine ⟨_, _, _, rfl, ⟨?_, ?_, h.2.2⟩, Int.emod_nonneg _ (by omega), by have := Int.emod_lt_of_pos (wrap64 (Go.bits .and .i64 (Go.bits .xor .i64 (wrap64 (wrap64 (z * 6364136223846793005) + 1442695040888963407) / 8589934592) (wrap64 (wrap64 (z * 6364136223846793005) + 1442695040888963407) / 35184372088832)) 255 + wrap64 (rd s p))) (show (0 : Int) < 256 by omega); omega⟩
    · rw [wrap_id (by omega) (by omega)]; omega
    · rw [wrap_id (by omega) (by omega)]; omega
  · rw [if_neg hp, and255]
    refine ⟨_, _, _, rfl, h, Int.emod_nonneg _ (by omega), by have := Int.emod_lt_of_pos (Go.bits .xor .i64 (wrap64 (wrap64 (z * 6364136223846793005) + 1442695040888963407) / 8589934592) (wrap64 (wrap64 (z * 6364136223846793005) + 1442695040888963407) / 35184372088832)) (show (0 : Int) < 256 by omega); omega⟩
theorem dBelow (s : List Int) (p z n : Int) (h : At s p) : ∃ v p' z', spec_l1Below.f s p z n = some (v, p', z') ∧ At s p' ∧ 0 ≤ v ∧ (0 < n → v < n) := by
  unfold spec_l1Below.f
  by_cases h0 : n ≤ 0
  · rw [if_pos h0]; exact ⟨0, p, z, rfl, h, by omega, by omega⟩
  rw [if_neg h0]
  by_cases h1 : n ≤ 256
  · rw [if_pos h1]
    obtain ⟨b, p1, z1, e1, a1, b1, b2⟩ := dByte s p z h
    rw [e1]; simp only [Option.bind_some]
    rw [if_neg (by omega)]
    exact ⟨_, _, _, rfl, a1, Int.tmod_nonneg _ b1, fun _ => Int.tmod_lt_of_pos _ (by omega)⟩
  · rw [if_neg h1]
    obtain ⟨b, p1, z1, e1, a1, b1, b2⟩ := dByte s p z h
    rw [e1]; simp only [Option.bind_some]
    obtain ⟨c, p2, z2, e2, a2, c1, c2⟩ := dByte s p1 z1 a1
    rw [e2]; simp only [Option.bind_some]
    obtain ⟨d, p3, z3, e3, a3, d1, d2⟩ := dByte s p2 z2 a2
    rw [e3]; simp only [Option.bind_some]
    obtain ⟨e, p4, z4, e4, a4, f1, f2⟩ := dByte s p3 z3 a3
    rw [e4]; simp only [Option.bind_some]
    rw [if_neg (by omega), wrap_id (x := b * 16777216) (by omega) (by omega), wrap_id (x := c * 65536) (by omega) (by omega), wrap_id (x := d * 256) (by omega) (by omega), wrap_id (x := b * 16777216 + c * 65536) (by omega) (by omega), wrap_id (x := b * 16777216 + c * 65536 + d * 256) (by omega) (by omega), wrap_id (x := b * 16777216 + c * 65536 + d * 256 + e) (by omega) (by omega)]
    exact ⟨_, _, _, rfl, a4, Int.tmod_nonneg _ (by omega), fun _ => Int.tmod_lt_of_pos _ (by omega)⟩
theorem dPick (s : List Int) (p z : Int) (xs : List Int) (h : At s p) (hx : xs ≠ []) (hl : xs.length ≤ 256) : ∃ v p' z', spec_l1PickInt.f s p z xs = some (v, p', z') ∧ At s p' ∧ v ∈ xs := by
  unfold spec_l1PickInt.f
  have hn : 0 < xs.length := List.length_pos_iff.2 hx
  obtain ⟨v, p1, z1, e1, a1, b1, b2⟩ := dBelow s p z (xs.length : Int) h
  rw [e1]; simp only [Option.bind_some]
  have hv := b2 (by omega)
  rw [if_pos b1, if_pos hv]
  obtain ⟨i, rfl⟩ := Int.eq_ofNat_of_zero_le b1
  have hi : i < xs.length := by omega
  refine ⟨_, _, _, rfl, a1, ?_⟩
  have : rd xs (i : Int) = xs[i] := by unfold rd; simp [List.getD, hi]
  rw [this]; exact List.getElem_mem hi
theorem dOnce (s : List Int) (p z n : Int) (h : At s p) : ∃ v p' z', spec_l1Once.f s p z n = some (v, p', z') ∧ At s p' := by
  unfold spec_l1Once.f
  obtain ⟨v, p1, z1, e1, a1, b1, b2⟩ := dBelow s p z n h
  rw [e1]; exact ⟨_, _, _, rfl, a1⟩
theorem dNew (s : List Int) (hs : s.length ≤ 1048576) (k : Nat) (hk : 4100 < k) : ∃ z, spec_l1New.f k s = some (s, 0, z) ∧ At s 0 := by
  unfold spec_l1New.f
  have : ∀ (d i k : Nat) (z : Int), i + d = 4000 → d < k → ∃ z', spec_l1New.l0 k s z (i : Int) = some (s, 0, z') := by
    intro d
    induction d with
    | zero =>
      intro i k z hi hk
      obtain ⟨k, rfl⟩ : ∃ j, k = j + 1 := ⟨k - 1, by omega⟩
      simp only [spec_l1New.l0]
      obtain rfl : i = 4000 := by omega
      split
      · exact ⟨_, by rw [if_neg (by omega)]⟩
      · exact ⟨_, rfl⟩
    | succ d ih =>
      intro i k z hi hk
      obtain ⟨k, rfl⟩ : ∃ j, k = j + 1 := ⟨k - 1, by omega⟩
      simp only [spec_l1New.l0]
      split
      · rw [if_pos (by omega), if_pos (by omega), wrap_succ (n := 4000) (by omega) (by omega)]
        exact ih (i + 1) k _ (by omega) (by omega)
      · exact ⟨_, rfl⟩
  obtain ⟨z, h⟩ := this 4000 0 k (wrap64 (72072 + (s.length : Int))) (by omega) (by omega)
  exact ⟨z, h, by unfold At; omega⟩
end Go.Proofs.Ytjlmfnpgcmmdnaa.C
namespace Go.Proofs.Ytjlmfnpgcmmdnaa.P
open Go.RowKit Go.Proofs.YtjlmfnpgcmmdnaaW.PrintWords Go.Proofs.YtjlmfnpgcmmdnaaW.PrintLast Go.Proofs.YtjlmfnpgcmmdnaaW.PrintMore
attribute [local go_sem] max2_int min2_int max_two min_two max_three min_three max_four min_four
set_option linter.unusedVariables false
set_option linter.unusedSimpArgs false
end Go.Proofs.Ytjlmfnpgcmmdnaa.P

namespace Go.Proofs.Ytjlmfnpgcmmdnaa.P
open Go.RowKit Go.Proofs.YtjlmfnpgcmmdnaaW.PrintWords Go.Proofs.YtjlmfnpgcmmdnaaW.PrintLast Go.Proofs.YtjlmfnpgcmmdnaaW.PrintMore
attribute [local go_sem] max2_int min2_int max_two min_two max_three min_three max_four min_four
set_option linter.unusedVariables false
set_option linter.unusedSimpArgs false
end Go.Proofs.Ytjlmfnpgcmmdnaa.P

namespace Go.Proofs.Ytjlmfnpgcmmdnaa.P
open Go.RowKit Go.Proofs.YtjlmfnpgcmmdnaaW.PrintWords Go.Proofs.YtjlmfnpgcmmdnaaW.PrintLast Go.Proofs.YtjlmfnpgcmmdnaaW.PrintMore
attribute [local go_sem] max2_int min2_int max_two min_two max_three min_three max_four min_four
set_option linter.unusedVariables false
set_option linter.unusedSimpArgs false
end Go.Proofs.Ytjlmfnpgcmmdnaa.P

namespace Go.Proofs.Ytjlmfnpgcmmdnaa.P
open Go.RowKit Go.Proofs.YtjlmfnpgcmmdnaaW.PrintWords Go.Proofs.YtjlmfnpgcmmdnaaW.PrintLast Go.Proofs.YtjlmfnpgcmmdnaaW.PrintMore
attribute [local go_sem] max2_int min2_int max_two min_two max_three min_three max_four min_four
set_option linter.unusedVariables false
set_option linter.unusedSimpArgs false
end Go.Proofs.Ytjlmfnpgcmmdnaa.P

namespace Go.Proofs.Ytjlmfnpgcmmdnaa.P
open Go.RowKit Go.Proofs.YtjlmfnpgcmmdnaaW.PrintWords Go.Proofs.YtjlmfnpgcmmdnaaW.PrintLast Go.Proofs.YtjlmfnpgcmmdnaaW.PrintMore
attribute [local go_sem] max2_int min2_int max_two min_two max_three min_three max_four min_four
set_option linter.unusedVariables false
set_option linter.unusedSimpArgs false
end Go.Proofs.Ytjlmfnpgcmmdnaa.P

namespace Go.Proofs.Ytjlmfnpgcmmdnaa.P
open Go.RowKit Go.Proofs.YtjlmfnpgcmmdnaaW.PrintWords Go.Proofs.YtjlmfnpgcmmdnaaW.PrintLast Go.Proofs.YtjlmfnpgcmmdnaaW.PrintMore
attribute [local go_sem] max2_int min2_int max_two min_two max_three min_three max_four min_four
set_option linter.unusedVariables false
set_option linter.unusedSimpArgs false
end Go.Proofs.Ytjlmfnpgcmmdnaa.P

namespace Go.Proofs.Ytjlmfnpgcmmdnaa.P
open Go.RowKit Go.Proofs.YtjlmfnpgcmmdnaaW.PrintWords Go.Proofs.YtjlmfnpgcmmdnaaW.PrintLast Go.Proofs.YtjlmfnpgcmmdnaaW.PrintMore
attribute [local go_sem] max2_int min2_int max_two min_two max_three min_three max_four min_four
set_option linter.unusedVariables false
set_option linter.unusedSimpArgs false
end Go.Proofs.Ytjlmfnpgcmmdnaa.P

namespace Go.Proofs.Ytjlmfnpgcmmdnaa.P
open Go.RowKit Go.Proofs.YtjlmfnpgcmmdnaaW.PrintWords Go.Proofs.YtjlmfnpgcmmdnaaW.PrintLast Go.Proofs.YtjlmfnpgcmmdnaaW.PrintMore
attribute [local go_sem] max2_int min2_int max_two min_two max_three min_three max_four min_four
set_option linter.unusedVariables false
set_option linter.unusedSimpArgs false
end Go.Proofs.Ytjlmfnpgcmmdnaa.P

namespace Go.Proofs.Ytjlmfnpgcmmdnaa.P
open Go.RowKit Go.Proofs.YtjlmfnpgcmmdnaaW.PrintWords Go.Proofs.YtjlmfnpgcmmdnaaW.PrintLast Go.Proofs.YtjlmfnpgcmmdnaaW.PrintMore
attribute [local go_sem] max2_int min2_int max_two min_two max_three min_three max_four min_four
set_option linter.unusedVariables false
set_option linter.unusedSimpArgs false
end Go.Proofs.Ytjlmfnpgcmmdnaa.P

namespace Go.Proofs.Ytjlmfnpgcmmdnaa.P
open Go.RowKit Go.Proofs.YtjlmfnpgcmmdnaaW.PrintWords Go.Proofs.YtjlmfnpgcmmdnaaW.PrintLast Go.Proofs.YtjlmfnpgcmmdnaaW.PrintMore
attribute [local go_sem] max2_int min2_int max_two min_two max_three min_three max_four min_four
set_option linter.unusedVariables false
set_option linter.unusedSimpArgs false
end Go.Proofs.Ytjlmfnpgcmmdnaa.P

namespace Go.Proofs.Ytjlmfnpgcmmdnaa.P
open Go.RowKit Go.Proofs.YtjlmfnpgcmmdnaaW.PrintWords Go.Proofs.YtjlmfnpgcmmdnaaW.PrintLast Go.Proofs.YtjlmfnpgcmmdnaaW.PrintMore
attribute [local go_sem] max2_int min2_int max_two min_two max_three min_three max_four min_four
set_option linter.unusedVariables false
set_option linter.unusedSimpArgs false
end Go.Proofs.Ytjlmfnpgcmmdnaa.P

namespace Go.Proofs.Ytjlmfnpgcmmdnaa.P
open Go.RowKit Go.Proofs.YtjlmfnpgcmmdnaaW.PrintWords Go.Proofs.YtjlmfnpgcmmdnaaW.PrintLast Go.Proofs.YtjlmfnpgcmmdnaaW.PrintMore
attribute [local go_sem] max2_int min2_int max_two min_two max_three min_three max_four min_four
set_option linter.unusedVariables false
set_option linter.unusedSimpArgs false
end Go.Proofs.Ytjlmfnpgcmmdnaa.P

namespace Go.Proofs.Ytjlmfnpgcmmdnaa.P
open Go.RowKit Go.Proofs.YtjlmfnpgcmmdnaaW.PrintWords Go.Proofs.YtjlmfnpgcmmdnaaW.PrintLast Go.Proofs.YtjlmfnpgcmmdnaaW.PrintMore
attribute [local go_sem] max2_int min2_int max_two min_two max_three min_three max_four min_four
set_option linter.unusedVariables false
set_option linter.unusedSimpArgs false
end Go.Proofs.Ytjlmfnpgcmmdnaa.P

set_option linter.unusedVariables false
set_option linter.unusedSimpArgs false
namespace Go.Proofs.Ytjlmfnpgcmmdnaa.C
open Go.RowKit Go.Proofs.Ytjlmfnpgcmmdnaa.P Go.Proofs.Ytjlmfnpgcmmdnaa.G
end Go.Proofs.Ytjlmfnpgcmmdnaa.C

