/- Texts of the seat's proofs, part 5: functions of the program told as plain functions, with their contracts, and what is shown of them. No condition. -/
import Derived.Test.YtcgdnfaclbnflaaUKFRO
import Derived.Test.YtcgdnfaclbnflaaKFRO1
import Derived.Test.YtcgdnfaclbnflaaKFRO3
import Derived.Test.YtcgdnfaclbnflaaKFRO4
import Derived.Test.YtcgdnfaclbnflaaKFRO2
set_option linter.unusedVariables false
set_option linter.unusedSimpArgs false
namespace Go.Proofs.Ytcgdnfaclbnflaa.P
open Go.RowKit Go.Proofs.YtcgdnfaclbnflaaW.PrintWords Go.Proofs.YtcgdnfaclbnflaaW.PrintLast Go.Proofs.YtcgdnfaclbnflaaW.PrintMore
attribute [local go_sem] max2_int min2_int max_two min_two max_three min_three max_four min_four
set_option linter.unusedVariables false
set_option linter.unusedSimpArgs false
end Go.Proofs.Ytcgdnfaclbnflaa.P

namespace Go.Proofs.Ytcgdnfaclbnflaa.P
open Go.RowKit Go.Proofs.YtcgdnfaclbnflaaW.PrintWords Go.Proofs.YtcgdnfaclbnflaaW.PrintLast Go.Proofs.YtcgdnfaclbnflaaW.PrintMore
attribute [local go_sem] max2_int min2_int max_two min_two max_three min_three max_four min_four
set_option linter.unusedVariables false
set_option linter.unusedSimpArgs false
end Go.Proofs.Ytcgdnfaclbnflaa.P

namespace Go.Proofs.Ytcgdnfaclbnflaa.C
open Go.RowKit Go.Proofs.Ytcgdnfaclbnflaa.P Go.Proofs.Ytcgdnfaclbnflaa.G Go.Proofs.YtcgdnfaclbnflaaW.PrintWords
abbrev Lk := S83
abbrev Rg := S88
def mid (a b : Int) : Int := if Int.tmod (wrap64 (a + b)) 2 < 0 then wrap64 (wrap64 (Int.tdiv (wrap64 (a + b)) 2) - 1) else wrap64 (Int.tdiv (wrap64 (a + b)) 2)
theorem mid_in {a b : Int} (h : ivalOk a b = true) : a ≤ mid a b ∧ mid a b ≤ b := by
  rw [ivalOk_iff] at h
  unfold mid
  rw [wrap_id (x := a + b) (by omega) (by omega)]
  rcases Int.lt_or_le (a + b) 0 with c | c
  · obtain ⟨n, hn⟩ : ∃ n, a + b = -n := ⟨-(a + b), by omega⟩
    rw [hn, Int.neg_tdiv, Int.neg_tmod, Int.tdiv_eq_ediv_of_nonneg (by omega), Int.tmod_eq_emod_of_nonneg (by omega), wrap_id (x := -(n / 2)) (by omega) (by omega)]
    split
    · rw [wrap_id (by omega) (by omega)]; omega
    · omega
  · rw [Int.tdiv_eq_ediv_of_nonneg c, Int.tmod_eq_emod_of_nonneg c, wrap_id (x := (a + b) / 2) (by omega) (by omega), if_neg (by omega)]; omega
def middle (a b : Int) : Int × Bool := if ivalOk a b = true then (mid a b, true) else (0, false)
theorem sMiddle (a b : Int) : spec_Middle.f a b = some (middle a b) := by
  unfold spec_Middle.f middle spec_l1Down.f mid
  rw [sIvalOk, Option.bind_some]
  cases ivalOk a b with
  | false => rw [if_neg (by decide), if_neg (by decide)]
  | true => rw [if_pos rfl, if_pos rfl, if_neg (by decide)]; split <;> rfl
theorem iMiddle (a b : Int) : impl_Middle.f a b = some (middle a b) := by
  unfold impl_Middle.f middle impl_down.f mid
  rw [iIvalOk, Option.bind_some]
  cases ivalOk a b with
  | false => rw [if_neg (by decide), if_neg (by decide)]
  | true => rw [if_pos rfl, if_pos rfl, if_neg (by decide)]; split <;> rfl
theorem l1MaxA (a b : Int) : spec_l1Max.f a b = some (mx a b) := by
  unfold spec_l1Max.f mx
  by_cases h : a > b
  · rw [if_pos h]; congr 1; split <;> omega
  · rw [if_neg h]; congr 1; split <;> omega
def appOk (h : Bool) (x : Int) : Bool := decide (-1000000000000 ≤ x ∧ x ≤ 1000000000000) && (h || decide (x = 0))
theorem appOk_iff (h : Bool) (x : Int) : appOk h x = true ↔ (-1000000000000 ≤ x ∧ x ≤ 1000000000000) ∧ (h = true ∨ x = 0) := by unfold appOk; simp
theorem sAppOk (h : Bool) (x : Int) : spec_AppOk.f h x = some (appOk h x) := by
  unfold spec_AppOk.f appOk; rw [l1In, Option.bind_some]
  cases decide (-1000000000000 ≤ x ∧ x ≤ 1000000000000) <;> cases h <;> simp <;> (by_cases hz : x = 0 <;> simp [hz])
theorem iAppOk (h : Bool) (x : Int) : impl_AppOk.f h x = some (appOk h x) := by
  unfold impl_AppOk.f appOk; rw [in_, Option.bind_some]
  cases decide (-1000000000000 ≤ x ∧ x ≤ 1000000000000) <;> cases h <;> simp <;> (by_cases hz : x = 0 <;> simp [hz])
def appRead (h : Bool) (x : Int) (kn : Bool) (a b : Int) : Bool × Int × Int × Bool × Int :=
  if (appOk h x && (!kn || ivalOk a b)) = true then
    (if kn = true then (if (h && decide (x > b)) = true then (h, x, x, true, 0) else (if h = true then (true, mx (mid a b) x, mx (mid a b) x, false, 0) else (true, mid a b, mid a b, false, 0)))
     else (if h = true then (h, x, x, true, 0) else (h, x, 0, false, 2)))
  else (false, 0, 0, false, 1)
theorem iAppRead (h : Bool) (x : Int) (kn : Bool) (a b : Int) (k : Nat) (hk : 3 ≤ k) : impl_AppRead.f k h x kn a b = some (appRead h x kn a b) := by
  obtain ⟨k, rfl⟩ : ∃ j, k = j + 3 := ⟨k - 3, by omega⟩
  unfold impl_AppRead.f appRead
  simp only [iAppOk, iIvalOk, Option.bind_some, impl_AppRead.j0, impl_AppRead.j1, impl_AppRead.j2, iMiddle, middle]
  cases appOk h x <;> cases kn <;> cases h <;> cases ivalOk a b <;> by_cases c : x > b <;> simp [c]
theorem sAppRead (h : Bool) (x : Int) (kn : Bool) (a b : Int) (k : Nat) (hk : 3 ≤ k) : spec_AppRead.f k h x kn a b = some (appRead h x kn a b) := by
  obtain ⟨k, rfl⟩ : ∃ j, k = j + 3 := ⟨k - 3, by omega⟩
  unfold spec_AppRead.f appRead
  simp only [sAppOk, sIvalOk, Option.bind_some, spec_AppRead.j0, spec_AppRead.j1, sMiddle, middle, l1MaxA]
  cases appOk h x <;> cases kn <;> cases h <;> cases ivalOk a b <;> by_cases c : x > b <;> simp [c]
theorem read_facts {h : Bool} {x : Int} {kn : Bool} {a b : Int} (ho : appOk h x = true) (hv : kn = true → ivalOk a b = true) :
    (kn = false ∧ h = false ∧ appRead h x kn a b = (h, x, 0, false, 2)) ∨
    (∃ v c, appRead h x kn a b = (true, v, v, c, 0) ∧ appOk true v = true ∧ (h = true → x ≤ v) ∧ ((kn = false ∧ c = true ∧ h = true ∧ v = x) ∨ (kn = true ∧ c = true ∧ h = true ∧ v = x ∧ v > b) ∨ (kn = true ∧ c = false ∧ a ≤ v ∧ v ≤ b ∧ ¬ (h = true ∧ x > b)))) := by
  unfold appRead
  have ho' := ho
  rw [appOk_iff] at ho'
  cases kn with
  | false =>
    rw [ho, if_pos (by rfl), if_neg (by decide)]
    cases h with
    | false => left; exact ⟨rfl, rfl, rfl⟩
    | true => right; exact ⟨x, true, rfl, ho, fun _ => Int.le_refl _, .inl ⟨rfl, rfl, rfl, rfl⟩⟩
  | true =>
    have hv := hv rfl
    have hm := mid_in hv
    have hv' := hv
    rw [ivalOk_iff] at hv'
    rw [ho, hv, if_pos (by rfl), if_pos rfl]
    right
    cases h with
    | false =>
      rw [Bool.false_and, if_neg (by decide), if_neg (by decide)]
      exact ⟨mid a b, false, rfl, by rw [appOk_iff]; exact ⟨by omega, .inl rfl⟩, fun e => (by cases e), .inr (.inr ⟨rfl, rfl, hm.1, hm.2, by simp⟩)⟩
    | true =>
      by_cases c : x > b
      · rw [decide_eq_true c, if_pos (by rfl)]
        exact ⟨x, true, rfl, ho, fun _ => Int.le_refl _, .inr (.inl ⟨rfl, rfl, rfl, rfl, c⟩)⟩
      · rw [decide_eq_false c, if_neg (by decide), if_pos rfl]
        have hx : a ≤ mx (mid a b) x ∧ mx (mid a b) x ≤ b ∧ x ≤ mx (mid a b) x := by unfold mx; split <;> omega
        exact ⟨mx (mid a b) x, false, rfl, by rw [appOk_iff]; exact ⟨by omega, .inl rfl⟩, fun _ => hx.2.2, .inr (.inr ⟨rfl, rfl, hx.1, hx.2.1, fun e => c e.2⟩)⟩
end Go.Proofs.Ytcgdnfaclbnflaa.C
namespace Go.Proofs.Ytcgdnfaclbnflaa.P
open Go.RowKit Go.Proofs.YtcgdnfaclbnflaaW.PrintWords Go.Proofs.YtcgdnfaclbnflaaW.PrintLast Go.Proofs.YtcgdnfaclbnflaaW.PrintMore
attribute [local go_sem] max2_int min2_int max_two min_two max_three min_three max_four min_four
set_option linter.unusedVariables false
set_option linter.unusedSimpArgs false
end Go.Proofs.Ytcgdnfaclbnflaa.P

