/- Texts of the seat's proofs, part 5: functions of the program told as plain functions, with their contracts, and what is shown of them. No condition. -/
import Derived.Test.YtcgdnfaclbnflaaUKFR
import Derived.Test.YtcgdnfaclbnflaaKFR1
import Derived.Test.YtcgdnfaclbnflaaKFR3
import Derived.Test.YtcgdnfaclbnflaaKFR4
import Derived.Test.YtcgdnfaclbnflaaKFR2
set_option linter.unusedVariables false
set_option linter.unusedSimpArgs false
namespace Go.Proofs.Ytcgdnfaclbnflaa.P
open Go.RowKit Go.Proofs.YtcgdnfaclbnflaaW.PrintWords Go.Proofs.YtcgdnfaclbnflaaW.PrintLast Go.Proofs.YtcgdnfaclbnflaaW.PrintMore
attribute [local go_sem] max2_int min2_int max_two min_two max_three min_three max_four min_four
set_option linter.unusedVariables false
set_option linter.unusedSimpArgs false
end Go.Proofs.Ytcgdnfaclbnflaa.P

namespace Go.Proofs.Ytcgdnfaclbnflaa.P
open Go.RowKit Go.Proofs.YtcgdnfaclbnflaaW.PrintWords Go.Proofs.YtcgdnfaclbnflaaW.PrintLast Go.Proofs.YtcgdnfaclbnflaaW.PrintMore
attribute [local go_sem] max2_int min2_int max_two min_two max_three min_three max_four min_four
set_option linter.unusedVariables false
set_option linter.unusedSimpArgs false
end Go.Proofs.Ytcgdnfaclbnflaa.P

namespace Go.Proofs.Ytcgdnfaclbnflaa.C
open Go.RowKit Go.Proofs.Ytcgdnfaclbnflaa.P Go.Proofs.Ytcgdnfaclbnflaa.G Go.Proofs.YtcgdnfaclbnflaaW.PrintWords
abbrev Lk := S83
abbrev Rg := S88
theorem rdLk (l : List Lk) (i : Nat) (h : i < l.length) : rd_T83 l (i : Int) = l[i] := by
  unfold rd_T83; simp [List.getD, h]
theorem rdRg (l : List Rg) (i : Nat) (h : i < l.length) : rd_T88 l (i : Int) = l[i] := by
  unfold rd_T88; simp [List.getD, h]
def mid (a b : Int) : Int := if Int.tmod (wrap64 (a + b)) 2 < 0 then wrap64 (wrap64 (Int.tdiv (wrap64 (a + b)) 2) - 1) else wrap64 (Int.tdiv (wrap64 (a + b)) 2)
theorem mid_in {a b : Int} (h : ivalOk a b = true) : a ≤ mid a b ∧ mid a b ≤ b := by
  rw [ivalOk_iff] at h
  unfold mid
  rw [wrap_id (x := a + b) (by omega) (by omega)]
  rcases Int.lt_or_le (a + b) 0 with c | c
  · obtain ⟨n, hn⟩ : ∃ n, a + b = -n := ⟨-(a + b), by omega⟩
    rw [hn, Int.neg_tdiv, Int.neg_tmod, Int.tdiv_eq_ediv_of_nonneg (by omega), Int.tmod_eq_emod_of_nonneg (by omega), wrap_id (x := -(n / 2)) (by omega) (by omega)]
    split
    · rw [wrap_id (by omega) (by omega)]; omega
    · omega
  · rw [Int.tdiv_eq_ediv_of_nonneg c, Int.tmod_eq_emod_of_nonneg c, wrap_id (x := (a + b) / 2) (by omega) (by omega), if_neg (by omega)]; omega
def middle (a b : Int) : Int × Bool := if ivalOk a b = true then (mid a b, true) else (0, false)
theorem iMiddle (a b : Int) : impl_Middle.f a b = some (middle a b) := by
  unfold impl_Middle.f middle impl_down.f mid
  rw [iIvalOk, Option.bind_some]
  cases ivalOk a b with
  | false => rw [if_neg (by decide), if_neg (by decide)]
  | true => rw [if_pos rfl, if_pos rfl, if_neg (by decide)]; split <;> rfl
def appOk (h : Bool) (x : Int) : Bool := decide (-1000000000000 ≤ x ∧ x ≤ 1000000000000) && (h || decide (x = 0))
theorem appOk_iff (h : Bool) (x : Int) : appOk h x = true ↔ (-1000000000000 ≤ x ∧ x ≤ 1000000000000) ∧ (h = true ∨ x = 0) := by unfold appOk; simp
theorem iAppOk (h : Bool) (x : Int) : impl_AppOk.f h x = some (appOk h x) := by
  unfold impl_AppOk.f appOk; rw [in_, Option.bind_some]
  cases decide (-1000000000000 ≤ x ∧ x ≤ 1000000000000) <;> cases h <;> simp <;> (by_cases hz : x = 0 <;> simp [hz])
def appRead (h : Bool) (x : Int) (kn : Bool) (a b : Int) : Bool × Int × Int × Bool × Int :=
  if (appOk h x && (!kn || ivalOk a b)) = true then
    (if kn = true then (if (h && decide (x > b)) = true then (h, x, x, true, 0) else (if h = true then (true, mx (mid a b) x, mx (mid a b) x, false, 0) else (true, mid a b, mid a b, false, 0)))
     else (if h = true then (h, x, x, true, 0) else (h, x, 0, false, 2)))
  else (false, 0, 0, false, 1)
theorem iAppRead (h : Bool) (x : Int) (kn : Bool) (a b : Int) (k : Nat) (hk : 3 ≤ k) : impl_AppRead.f k h x kn a b = some (appRead h x kn a b) := by
  obtain ⟨k, rfl⟩ : ∃ j, k = j + 3 := ⟨k - 3, by omega⟩
  unfold impl_AppRead.f appRead
  simp only [iAppOk, iIvalOk, Option.bind_some, impl_AppRead.j0, impl_AppRead.j1, impl_AppRead.j2, iMiddle, middle]
  cases appOk h x <;> cases kn <;> cases h <;> cases ivalOk a b <;> by_cases c : x > b <;> simp [c]
theorem read_facts {h : Bool} {x : Int} {kn : Bool} {a b : Int} (ho : appOk h x = true) (hv : kn = true → ivalOk a b = true) :
    (kn = false ∧ h = false ∧ appRead h x kn a b = (h, x, 0, false, 2)) ∨
    (∃ v c, appRead h x kn a b = (true, v, v, c, 0) ∧ appOk true v = true ∧ (h = true → x ≤ v) ∧ ((kn = false ∧ c = true ∧ h = true ∧ v = x) ∨ (kn = true ∧ c = true ∧ h = true ∧ v = x ∧ v > b) ∨ (kn = true ∧ c = false ∧ a ≤ v ∧ v ≤ b ∧ ¬ (h = true ∧ x > b)))) := by
  unfold appRead
  have ho' := ho
  rw [appOk_iff] at ho'
  cases kn with
  | false =>
    rw [ho, if_pos (by rfl), if_neg (by decide)]
    cases h with
    | false => left; exact ⟨rfl, rfl, rfl⟩
    | true => right; exact ⟨x, true, rfl, ho, fun _ => Int.le_refl _, .inl ⟨rfl, rfl, rfl, rfl⟩⟩
  | true =>
    have hv := hv rfl
    have hm := mid_in hv
    have hv' := hv
    rw [ivalOk_iff] at hv'
    rw [ho, hv, if_pos (by rfl), if_pos rfl]
    right
    cases h with
    | false =>
      rw [Bool.false_and, if_neg (by decide), if_neg (by decide)]
      exact ⟨mid a b, false, rfl, by rw [appOk_iff]; exact ⟨by omega, .inl rfl⟩, fun e => (by cases e), .inr (.inr ⟨rfl, rfl, hm.1, hm.2, by simp⟩)⟩
    | true =>
      by_cases c : x > b
      · rw [decide_eq_true c, if_pos (by rfl)]
        exact ⟨x, true, rfl, ho, fun _ => Int.le_refl _, .inr (.inl ⟨rfl, rfl, rfl, rfl, c⟩)⟩
      · rw [decide_eq_false c, if_neg (by decide), if_pos rfl]
        have hx : a ≤ mx (mid a b) x ∧ mx (mid a b) x ≤ b ∧ x ≤ mx (mid a b) x := by unfold mx; split <;> omega
        exact ⟨mx (mid a b) x, false, rfl, by rw [appOk_iff]; exact ⟨by omega, .inl rfl⟩, fun _ => hx.2.2, .inr (.inr ⟨rfl, rfl, hx.1, hx.2.1, fun e => c e.2⟩)⟩
def runSt (l : List Lk) (h : Bool) (x : Int) : Nat → List Rg × Bool × Int
  | 0 => ([], h, x)
  | i + 1 => match l[i]? with
    | some y => ((runSt l h x i).1 ++ [⟨(appRead (runSt l h x i).2.1 (runSt l h x i).2.2 y.f0 y.f1.f0 y.f1.f1).2.2.1, (appRead (runSt l h x i).2.1 (runSt l h x i).2.2 y.f0 y.f1.f0 y.f1.f1).2.2.2.1, (appRead (runSt l h x i).2.1 (runSt l h x i).2.2 y.f0 y.f1.f0 y.f1.f1).2.2.2.2⟩],
        if (appRead (runSt l h x i).2.1 (runSt l h x i).2.2 y.f0 y.f1.f0 y.f1.f1).2.2.2.2 = 1 then (runSt l h x i).2 else ((appRead (runSt l h x i).2.1 (runSt l h x i).2.2 y.f0 y.f1.f0 y.f1.f1).1, (appRead (runSt l h x i).2.1 (runSt l h x i).2.2 y.f0 y.f1.f0 y.f1.f1).2.1))
    | none => runSt l h x i
theorem runSt_len (l : List Lk) (h : Bool) (x : Int) : ∀ i, i ≤ l.length → (runSt l h x i).1.length = i := by
  intro i
  induction i with
  | zero => intro _; rfl
  | succ i ih =>
    intro hi
    rw [runSt, List.getElem?_eq_getElem (by omega)]
    simp only
    rw [List.length_append, ih (by omega)]; rfl
def appRun (h : Bool) (x : Int) (l : List Lk) : List Rg × Bool × Int := if (l.length : Int) > 200 then ([], h, x) else runSt l h x l.length
theorem iAppRun (h : Bool) (x : Int) (l : List Lk) (k : Nat) (hk : 210 ≤ k) : impl_AppRun.f k h x l = some (appRun h x l) := by
  unfold impl_AppRun.f appRun
  by_cases hl : (l.length : Int) > 200
  · rw [if_pos hl, if_pos hl]
  rw [if_neg hl, if_neg hl]
  refine track_loop0 (n := l.length) (c := 3) (σ := List Rg × Bool × Int) (F := runSt l h x) (L := fun k s i => impl_AppRun.l0 k s.1 l (l.length : Int) i s.2.1 s.2.2) (fun k i hi hk => ?_) (fun k hk => ?_) k (by omega)
  · simp only [impl_AppRun.l0]
    have hlen := runSt_len l h x i (by omega)
    rw [if_pos (by omega), if_pos (by omega), if_pos (by omega), rdLk l i hi, iAppRead _ _ _ _ _ _ hk, Option.bind_some, if_pos (by omega), Option.bind_some, wrap_succ hi (by omega)]
    rw [runSt, List.getElem?_eq_getElem hi]
    split
    · rename_i hc; simp only [hc, if_true]
    · rename_i hc; simp only [hc, if_false]
  · simp only [impl_AppRun.l0]
    rw [if_neg (by omega)]
end Go.Proofs.Ytcgdnfaclbnflaa.C
namespace Go.Proofs.Ytcgdnfaclbnflaa.P
open Go.RowKit Go.Proofs.YtcgdnfaclbnflaaW.PrintWords Go.Proofs.YtcgdnfaclbnflaaW.PrintLast Go.Proofs.YtcgdnfaclbnflaaW.PrintMore
attribute [local go_sem] max2_int min2_int max_two min_two max_three min_three max_four min_four
set_option linter.unusedVariables false
set_option linter.unusedSimpArgs false
end Go.Proofs.Ytcgdnfaclbnflaa.P

