/- Texts of the seat's proofs, part 6: functions of the program told as plain functions, with their contracts, and what is shown of them. No condition. -/
import Derived.Test.YtcgdnfaclbnflaaUKFR
import Derived.Test.YtcgdnfaclbnflaaKFR1
import Derived.Test.YtcgdnfaclbnflaaKFR2
import Derived.Test.YtcgdnfaclbnflaaKFR5
import Derived.Test.YtcgdnfaclbnflaaKFR4
import Derived.Test.YtcgdnfaclbnflaaKFR3
import Derived.Deep.Slices
import Derived.ProofKit
import Derived.OpenShut
set_option linter.unusedVariables false
set_option linter.unusedSimpArgs false
namespace Go.Proofs.Ytcgdnfaclbnflaa.P
open Go.RowKit Go.Proofs.YtcgdnfaclbnflaaW.PrintWords Go.Proofs.YtcgdnfaclbnflaaW.PrintLast Go.Proofs.YtcgdnfaclbnflaaW.PrintMore
attribute [local go_sem] max2_int min2_int max_two min_two max_three min_three max_four min_four
set_option linter.unusedVariables false
set_option linter.unusedSimpArgs false
end Go.Proofs.Ytcgdnfaclbnflaa.P

namespace Go.Proofs.Ytcgdnfaclbnflaa.C
open Go.RowKit Go.Proofs.Ytcgdnfaclbnflaa.P Go.Proofs.Ytcgdnfaclbnflaa.G Go.Proofs.YtcgdnfaclbnflaaW.PrintWords
theorem dApp (s : List Int) (p z : Int) (h : At s p) : ∃ a x p' z', spec_l12DrawApp.f s p z = some (a, x, p', z') ∧ At s p' := by
  unfold spec_l12DrawApp.f
  obtain ⟨o, p1, z1, e1, a1⟩ := dOnce s p z 4 h
  rw [e1, Option.bind_some]
  cases o with
  | true =>
    obtain ⟨v, p2, z2, e2, a2, _⟩ := dBelow s p1 z1 20 a1
    rw [if_pos rfl, e2, Option.bind_some]; exact ⟨_, _, _, _, rfl, a2⟩
  | false =>
    obtain ⟨v, p2, z2, e2, a2, _⟩ := dBelow s p1 z1 90 a1
    rw [if_neg (by simp), e2, Option.bind_some]
    obtain ⟨o, p3, z3, e3, a3⟩ := dOnce s p2 z2 12 a2
    rw [e3, Option.bind_some]
    cases o with
    | true =>
      obtain ⟨v, p4, z4, e4, a4, _⟩ := dPick s p3 z3 [1000000000000, 1000000000001, (-1000000000000), (-1000000000001)] a3 (by simp) (by simp)
      rw [if_pos rfl, e4, Option.bind_some]; exact ⟨_, _, _, _, rfl, a4⟩
    | false => rw [if_neg (by simp)]; exact ⟨_, _, _, _, rfl, a3⟩
theorem dLooksL (s : List Int) (n : Nat) (hn : n ≤ 201) : ∀ (d i k : Nat) (p z t : Int) (l : List Lk), i + d = n → d < k → At s p → l.length = i → ∃ l' p' z', spec_l12DrawLooks.l0 k (n : Int) l t (i : Int) s p z = some (l', p', z') ∧ At s p' ∧ l'.length = n := by
  intro d
  induction d with
  | zero =>
    intro i k p z t l hi hk h hl
    obtain ⟨k, rfl⟩ : ∃ j, k = j + 1 := ⟨k - 1, by omega⟩
    simp only [spec_l12DrawLooks.l0]
    rw [if_neg (by omega)]
    exact ⟨_, _, _, rfl, h, by omega⟩
  | succ d ih =>
    intro i k p z t l hi hk h hl
    obtain ⟨k, rfl⟩ : ∃ j, k = j + 1 := ⟨k - 1, by omega⟩
    simp only [spec_l12DrawLooks.l0]
    obtain ⟨a, p1, z1, e1, a1, _⟩ := dBelow s p z 8 h
    rw [if_pos (by omega), e1, Option.bind_some]
    obtain ⟨o, p2, z2, e2, a2⟩ := dOnce s p1 z1 4 a1
    rw [e2, Option.bind_some]
    obtain ⟨b, p3, z3, e3, a3, _⟩ := dBelow s p2 z2 12 a2
    rw [e3, Option.bind_some]
    obtain ⟨c, p4, z4, e4, a4, _⟩ := dBelow s p3 z3 12 a3
    rw [e4, Option.bind_some]
    obtain ⟨o2, p5, z5, e5, a5⟩ := dOnce s p4 z4 40 a4
    rw [e5, Option.bind_some]
    dsimp only
    cases o2 with
    | true =>
      obtain ⟨x, y, p6, z6, e6, a6⟩ := dIval1 s p5 z5 a5
      rw [if_pos rfl, e6, Option.bind_some, if_pos (by omega), wrap_succ (n := n) (by omega) (by omega)]
      exact ih (i + 1) k _ _ _ _ (by omega) (by omega) a6 (by simp; omega)
    | false =>
      rw [if_neg (by simp), if_pos (by omega), wrap_succ (n := n) (by omega) (by omega)]
      exact ih (i + 1) k _ _ _ _ (by omega) (by omega) a5 (by simp; omega)
theorem dLooks (s : List Int) (p z m : Int) (h : At s p) (hm : 0 ≤ m ∧ m ≤ 30) (k : Nat) (hk : 210 ≤ k) : ∃ l p' z', spec_l12DrawLooks.f k s p z m = some (l, p', z') ∧ At s p' ∧ l.length ≤ 201 := by
  obtain ⟨k, rfl⟩ : ∃ j, k = j + 1 := ⟨k - 1, by omega⟩
  unfold spec_l12DrawLooks.f
  rw [wrap_id (x := m + 1) (by omega) (by omega)]
  obtain ⟨n, p1, z1, e1, a1, b1, b2⟩ := dBelow s p z (m + 1) h
  have := b2 (by omega)
  rw [e1, Option.bind_some]
  obtain ⟨o, p2, z2, e2, a2⟩ := dOnce s p1 z1 30 a1
  rw [e2, Option.bind_some]
  have hJ : ∀ (n : Nat) (p z : Int), n ≤ 201 → At s p → ∃ l p' z', spec_l12DrawLooks.j0 (k + 1) (n : Int) s p z = some (l, p', z') ∧ At s p' ∧ l.length ≤ 201 := by
    intro n p z hn h
    simp only [spec_l12DrawLooks.j0]
    obtain ⟨t, p3, z3, e3, a3, _⟩ := dBelow s p z 30 h
    rw [e3, Option.bind_some]
    obtain ⟨l, p4, z4, e4, a4, hl⟩ := dLooksL s n hn n 0 k p3 z3 t [] (by omega) (by omega) a3 rfl
    exact ⟨_, _, _, e4, a4, by omega⟩
  cases o with
  | true =>
    obtain ⟨v, p3, z3, e3, a3, c1, c2⟩ := dBelow s p2 z2 2 a2
    have := c2 (by omega)
    rw [if_pos rfl, e3, Option.bind_some, wrap_id (x := 200 + v) (by omega) (by omega)]
    obtain ⟨w, hw⟩ := Int.eq_ofNat_of_zero_le (show 0 ≤ 200 + v by omega)
    rw [hw]
    exact hJ w p3 z3 (by omega) a3
  | false =>
    obtain ⟨w, hw⟩ := Int.eq_ofNat_of_zero_le b1
    rw [if_neg (by simp), hw]
    exact hJ w p2 z2 (by omega) a2
theorem dAppRun (s : List Int) (hs : s.length ≤ 1048576) (k : Nat) (hk : 5000 ≤ k) : ∃ a x l, spec_DrawAppRun.f k s = some (a, x, l) ∧ l.length ≤ 201 := by
  unfold spec_DrawAppRun.f
  obtain ⟨z0, e0, a0⟩ := dNew s hs k (by omega)
  rw [e0, Option.bind_some]
  obtain ⟨a, x, p1, z1, e1, a1⟩ := dApp s 0 z0 a0
  rw [e1, Option.bind_some]
  have hm : ∃ m, spec_l1Size.f s 30 = some m ∧ 0 ≤ m ∧ m ≤ 30 := by
    unfold spec_l1Size.f
    rw [wrap_id (x := (s.length : Int) / 20) (by omega) (by omega), wrap_id (x := 2 + (s.length : Int) / 20) (by omega) (by omega)]
    split
    · exact ⟨_, rfl, by omega⟩
    · exact ⟨_, rfl, by omega⟩
  obtain ⟨m, e2, h2⟩ := hm
  rw [e2, Option.bind_some]
  obtain ⟨l, p3, z3, e3, a3, hl⟩ := dLooks s p1 z1 m a1 h2 k (by omega)
  rw [e3, Option.bind_some]
  exact ⟨_, _, _, rfl, hl⟩
end Go.Proofs.Ytcgdnfaclbnflaa.C
namespace Go.Proofs.Ytcgdnfaclbnflaa.V
open Go.RowKit Go.Proofs.Ytcgdnfaclbnflaa.P Go.Proofs.Ytcgdnfaclbnflaa.C Go.Proofs.Ytcgdnfaclbnflaa.G
def goodL (l : List Lk) : Prop := ∀ i (hi : i < l.length), l[i].f0 = true → ivalOk l[i].f1.f0 l[i].f1.f1 = true
theorem run_ok {l : List Lk} (hg : goodL l) : ∀ i, i ≤ l.length → appOk (runSt l false 0 i).2.1 (runSt l false 0 i).2.2 = true := by
  intro i
  induction i with
  | zero => intro _; simp only [runSt]; rw [appOk_iff]; exact ⟨by omega, .inr rfl⟩
  | succ i ih =>
    intro hi
    have ho := ih (by omega)
    rw [runSt, List.getElem?_eq_getElem (by omega)]
    simp only
    rcases read_facts ho (hg i (by omega)) with ⟨_, _, e⟩ | ⟨v, c, e, e2, _⟩
    · rw [e]; simp only; rw [if_neg (by decide)]; exact ho
    · rw [e]; simp only; rw [if_neg (by decide)]; exact e2
theorem run_at {l : List Lk} : ∀ n, n ≤ l.length → ∀ i (hi : i < n), ∃ h : i < (runSt l false 0 n).1.length, (runSt l false 0 n).1[i] = (⟨(appRead (runSt l false 0 i).2.1 (runSt l false 0 i).2.2 (l[i]?.getD ⟨false, 0, 0⟩).f0 (l[i]?.getD ⟨false, 0, 0⟩).f1.f0 (l[i]?.getD ⟨false, 0, 0⟩).f1.f1).2.2.1, (appRead (runSt l false 0 i).2.1 (runSt l false 0 i).2.2 (l[i]?.getD ⟨false, 0, 0⟩).f0 (l[i]?.getD ⟨false, 0, 0⟩).f1.f0 (l[i]?.getD ⟨false, 0, 0⟩).f1.f1).2.2.2.1, (appRead (runSt l false 0 i).2.1 (runSt l false 0 i).2.2 (l[i]?.getD ⟨false, 0, 0⟩).f0 (l[i]?.getD ⟨false, 0, 0⟩).f1.f0 (l[i]?.getD ⟨false, 0, 0⟩).f1.f1).2.2.2.2⟩ : Rg) := by
  intro n
  induction n with
  | zero => intro _ i hi; omega
  | succ n ih =>
    intro hn i hi
    have hlen := runSt_len l false 0 n (by omega)
    have hs : (runSt l false 0 (n + 1)).1 = (runSt l false 0 n).1 ++ [(⟨(appRead (runSt l false 0 n).2.1 (runSt l false 0 n).2.2 (l[n]?.getD ⟨false, 0, 0⟩).f0 (l[n]?.getD ⟨false, 0, 0⟩).f1.f0 (l[n]?.getD ⟨false, 0, 0⟩).f1.f1).2.2.1, (appRead (runSt l false 0 n).2.1 (runSt l false 0 n).2.2 (l[n]?.getD ⟨false, 0, 0⟩).f0 (l[n]?.getD ⟨false, 0, 0⟩).f1.f0 (l[n]?.getD ⟨false, 0, 0⟩).f1.f1).2.2.2.1, (appRead (runSt l false 0 n).2.1 (runSt l false 0 n).2.2 (l[n]?.getD ⟨false, 0, 0⟩).f0 (l[n]?.getD ⟨false, 0, 0⟩).f1.f0 (l[n]?.getD ⟨false, 0, 0⟩).f1.f1).2.2.2.2⟩ : Rg)] := by
      rw [runSt, List.getElem?_eq_getElem (by omega)]; rfl
    rcases Nat.lt_or_ge i n with c | c
    · obtain ⟨h1, h2⟩ := ih (by omega) i c
      refine ⟨by rw [hs]; simp; omega, ?_⟩
      rw [← h2]
      simp only [hs]
      rw [List.getElem_append_left h1]
    · obtain rfl : i = n := by omega
      refine ⟨by rw [hs]; simp; omega, ?_⟩
      simp only [hs]
      rw [List.getElem_append_right (by omega)]
      simp [hlen]
theorem run_next {l : List Lk} (i : Nat) (hi : i < l.length) : (runSt l false 0 (i + 1)).2 = if (appRead (runSt l false 0 i).2.1 (runSt l false 0 i).2.2 l[i].f0 l[i].f1.f0 l[i].f1.f1).2.2.2.2 = 1 then (runSt l false 0 i).2 else ((appRead (runSt l false 0 i).2.1 (runSt l false 0 i).2.2 l[i].f0 l[i].f1.f0 l[i].f1.f1).1, (appRead (runSt l false 0 i).2.1 (runSt l false 0 i).2.2 l[i].f0 l[i].f1.f0 l[i].f1.f1).2.1) := by
  rw [runSt, List.getElem?_eq_getElem hi]
theorem rOk {l : List Lk} (hl : l.length ≤ 200) (hg : goodL l) (k : Nat) (hk : 1000 ≤ k) : impl_ReadsOk.f k l (runSt l false 0 l.length).1 = some true := by
  obtain ⟨k, rfl⟩ : ∃ j, k = j + 1 := ⟨k - 1, by omega⟩
  have hlen := runSt_len l false 0 l.length (Nat.le_refl _)
  unfold impl_ReadsOk.f
  rw [if_neg (by omega), hlen, bne_self_eq_false]
  simp only [impl_ReadsOk.j0]
  rw [if_neg (by decide)]
  have key : ∀ d i k, i + d = l.length → 2 * d < k → impl_ReadsOk.l0 k (runSt l false 0 l.length).1 (runSt l false 0 i).2.1 (runSt l false 0 i).2.2 l (l.length : Int) (i : Int) = some true := by
    intro d
    induction d with
    | zero =>
      intro i k hi hk
      obtain ⟨k, rfl⟩ : ∃ j, k = j + 1 := ⟨k - 1, by omega⟩
      simp only [impl_ReadsOk.l0]
      rw [if_neg (by omega)]
    | succ d ih =>
      intro i k hi hk
      obtain ⟨k, rfl⟩ : ∃ j, k = j + 2 := ⟨k - 2, by omega⟩
      have hil : i < l.length := by omega
      obtain ⟨h1, h2⟩ := run_at (l := l) l.length (Nat.le_refl _) i hil
      rw [List.getElem?_eq_getElem hil, Option.getD_some] at h2
      have ih' := ih (i + 1) k (by omega) (by omega)
      rw [run_next i hil] at ih'
      have ho := run_ok hg i (by omega)
      have ho' := ho
      rw [appOk_iff] at ho'
      simp only [impl_ReadsOk.l0]
      rw [if_pos (by omega), if_pos (by omega), if_pos (by omega), if_pos (by omega), rdLk l i hil, rdRg _ i h1, h2]
      have hgi := hg i hil
      have fin : impl_ReadsOk.j2 (k + 1) (runSt l false 0 l.length).1 (runSt l false 0 i).2.1 (runSt l false 0 i).2.2 l (l.length : Int) (i : Int) false l[i].f0 l[i].f1.f0 l[i].f1.f1 (appRead (runSt l false 0 i).2.1 (runSt l false 0 i).2.2 l[i].f0 l[i].f1.f0 l[i].f1.f1).2.2.1 (appRead (runSt l false 0 i).2.1 (runSt l false 0 i).2.2 l[i].f0 l[i].f1.f0 l[i].f1.f1).2.2.2.1 (appRead (runSt l false 0 i).2.1 (runSt l false 0 i).2.2 l[i].f0 l[i].f1.f0 l[i].f1.f1).2.2.2.2 = some true := by
        simp only [impl_ReadsOk.j2]
        rw [if_neg (by decide), wrap_succ hil (by omega)]
        generalize hs : (runSt l false 0 i).2 = st at ih' ho ⊢
        obtain ⟨h, x⟩ := st
        simp only at ih' ho ⊢
        rcases read_facts ho hgi with ⟨g1, g2, g3⟩ | ⟨v, c, g3, g4, g5, g6⟩
        · rw [g3] at ih' ⊢
          simp only at ih' ⊢
          rw [if_neg (by decide)] at ih'
          rw [if_pos trivial, g1, if_neg (by decide), g2, if_neg (by decide), if_pos trivial, if_pos trivial]
          rw [g2] at ih'
          exact ih'
        · rw [g3] at ih' ⊢
          simp only at ih' ⊢
          rw [if_neg (by decide)] at ih'
          rw [if_neg (by decide)]
          rcases g6 with ⟨q1, q2, q3, q4⟩ | ⟨q1, q2, q3, q4, q5⟩ | ⟨q1, q2, q3, q4, q5⟩
          · rw [q1, if_neg (by decide), if_pos trivial, q2, if_pos rfl, q3, if_pos rfl, if_pos q4]; exact ih'
          · rw [q1, if_pos rfl, q2, if_pos rfl, if_pos trivial, q3, if_pos rfl, if_pos q4, if_pos q5]; exact ih'
          · have hH : impl_Holds.f l[i].f1.f0 l[i].f1.f1 v = some true := by
              unfold impl_Holds.f
              rw [iIvalOk, hgi q1, Option.bind_some, if_pos rfl, in_, Option.bind_some, decide_eq_true ⟨q3, q4⟩]
            rw [q1, if_pos rfl, q2, if_neg (by decide), if_pos trivial, hH, Option.bind_some, if_pos rfl]
            cases h with
            | false => rw [if_neg (by decide)]; exact ih'
            | true => rw [if_pos rfl, if_pos (g5 rfl)]; exact ih'
      cases hf : l[i].f0 with
      | false => rw [if_neg (by decide)]; rw [hf] at fin; exact fin
      | true =>
        rw [if_pos rfl, iIvalOk, hgi hf, Option.bind_some]
        rw [hf] at fin; exact fin
  exact key l.length 0 k (by omega) (by omega)
theorem rLoop {l : List Lk} (hl : l.length ≤ 200) (hg : goodL l) (k : Nat) (hk : 300 ≤ k) : laws_FnReadings.l1 k (runSt l false 0 l.length).1 false 0 0 (runSt l false 0 l.length).2.1 (runSt l false 0 l.length).2.2 = some true := by
  have hlen := runSt_len l false 0 l.length (Nat.le_refl _)
  refine track_loop0 (n := l.length) (c := 0) (σ := Bool × Int) (F := fun i => (runSt l false 0 i).2) (L := fun k s i => laws_FnReadings.l1 k (runSt l false 0 l.length).1 s.1 s.2 i (runSt l false 0 l.length).2.1 (runSt l false 0 l.length).2.2) (fun k i hi hk => ?_) (fun k hk => ?_) k (by omega)
  · obtain ⟨h1, h2⟩ := run_at (l := l) l.length (Nat.le_refl _) i hi
    rw [List.getElem?_eq_getElem hi, Option.getD_some] at h2
    simp only [laws_FnReadings.l1]
    rw [if_pos (by omega), if_pos (by omega), rdRg _ i h1, h2, wrap_succ hi (by omega), run_next i hi]
    have ho := run_ok hg i (by omega)
    have hgi := hg i hi
    generalize (runSt l false 0 i).2 = st at ho ⊢
    obtain ⟨h, x⟩ := st
    simp only at ho ⊢
    rcases read_facts ho hgi with ⟨g1, g2, g3⟩ | ⟨v, c, g3, g4, g5, g6⟩
    · rw [g3]; simp
    · rw [g3]
      cases h with
      | false => simp
      | true => have h9 : ¬ v < x := by have := g5 rfl; omega
                simp [h9]
  · simp only [laws_FnReadings.l1]
    rw [if_neg (by omega), beq_self_eq_true, if_pos rfl, beq_self_eq_true]
    split <;> rfl
theorem FnReadings : ∀ (l0 : List Int), (l0.length ≤ 9223372036854775807 ∧ ∀ y ∈ l0, (Lit.int .u8 y).wf = true) → ∃ k, laws_FnReadings.f k l0 = some true := by
  intro s ⟨hs, hb⟩
  refine ⟨2000000, ?_⟩
  unfold laws_FnReadings.f
  have hB : laws_big.f s = some (decide ((s.length : Int) > 1048576)) := rfl
  rw [hB, Option.bind_some]
  by_cases hbig : (s.length : Int) > 1048576
  · rw [decide_eq_true hbig, if_pos rfl]
  rw [decide_eq_false hbig, if_neg (by decide)]
  obtain ⟨a, x, l, e, hl⟩ := dAppRun s (by omega) 2000000 (by omega)
  rw [e, Option.bind_some]
  simp only
  have tail : ∀ (k i : Nat) (acc : List Lk), 2000 ≤ k → acc.length ≤ 200 → goodL acc → laws_FnReadings.j1 k l acc (i : Int) false = some true := by
    intro k i acc hk ha hg
    obtain ⟨k, rfl⟩ : ∃ j, k = j + 2 := ⟨k - 2, by omega⟩
    simp only [laws_FnReadings.j1]
    have hr : appRun false 0 acc = runSt acc false 0 acc.length := by unfold appRun; rw [if_neg (by omega)]
    have hlen := runSt_len acc false 0 acc.length (Nat.le_refl _)
    rw [if_neg (by decide), iAppRun false 0 acc _ (by omega), Option.bind_some, hr, hlen, if_pos (by trivial), rOk ha hg _ (by omega), Option.bind_some, if_pos rfl, iAppOk, run_ok hg _ (Nat.le_refl _), Option.bind_some]
    simp only [laws_FnReadings.j2]
    rw [if_neg (by decide)]
    exact rLoop ha hg k (by omega)
  have key : ∀ (d i k : Nat) (acc : List Lk), i + d = l.length → 2 * d + 3000 < k → acc.length ≤ i → acc.length ≤ 200 → goodL acc → laws_FnReadings.l0 k l acc (i : Int) = some true := by
    intro d
    induction d with
    | zero =>
      intro i k acc hi hk h1 h2 hg
      obtain ⟨k, rfl⟩ : ∃ j, k = j + 1 := ⟨k - 1, by omega⟩
      simp only [laws_FnReadings.l0]
      rw [if_neg (by omega)]
      exact tail k i acc (by omega) h2 hg
    | succ d ih =>
      intro i k acc hi hk h1 h2 hg
      obtain ⟨k, rfl⟩ : ∃ j, k = j + 2 := ⟨k - 2, by omega⟩
      have hil : i < l.length := by omega
      simp only [laws_FnReadings.l0]
      rw [if_pos (by omega)]
      by_cases h3 : i < 200
      · rw [decide_eq_true (by omega)]
        simp only [laws_FnReadings.j1]
        rw [if_pos (by trivial), if_pos (by omega), if_pos (by omega), rdLk l i hil, wrap_succ hil (by omega)]
        have hadd : (l[i].f0 = true → ivalOk l[i].f1.f0 l[i].f1.f1 = true) → goodL (acc ++ [(⟨l[i].f0, ⟨l[i].f1.f0, l[i].f1.f1⟩⟩ : Lk)]) := by
          intro hv j hj
          rcases Nat.lt_or_ge j acc.length with c | c
          · rw [List.getElem_append_left c]; exact hg j c
          · rw [List.getElem_append_right c]
            have : j - acc.length = 0 := by simp at hj; omega
            simp only [this, List.getElem_cons_zero]
            exact hv
        cases hf : l[i].f0 with
        | false =>
          rw [if_neg (by decide), if_pos (by omega)]
          rw [hf] at hadd
          exact ih (i + 1) k _ (by omega) (by omega) (by simp; omega) (by simp; omega) (hadd (fun e => by cases e))
        | true =>
          rw [if_pos rfl, sIvalOk, Option.bind_some]
          rw [hf] at hadd
          cases hv : ivalOk l[i].f1.f0 l[i].f1.f1 with
          | true => rw [if_pos rfl, if_pos (by omega)]; exact ih (i + 1) k _ (by omega) (by omega) (by simp; omega) (by simp; omega) (hadd (fun _ => hv))
          | false => rw [if_neg (by decide)]; exact ih (i + 1) k _ (by omega) (by omega) (by omega) h2 hg
      · rw [decide_eq_false (by omega)]
        exact tail (k + 1) i acc (by omega) h2 hg
  exact key l.length 0 _ [] (by omega) (by omega) (by simp) (by simp) (fun i hi => by simp at hi)
end Go.Proofs.Ytcgdnfaclbnflaa.V
namespace Go.Proofs.Ytcgdnfaclbnflaa.Args
open Go.ChangeShapes Go.WideShapes Go.Deep Go.Proofs.YtcgdnfaclbnflaaW.PrintWords
def Opens (P : Program) (t : TypeId) {α : Type} (d : Kd α) (B : α → Prop) : Prop :=
  ∀ {H : Type} {enc : TypeId × Value → H} {w : World} {base : Nat} {spare : Nat → Bool} {held : Bool} {fuel : Nat} {cs : List Value} {x : DataW H × List MemPlace},
    DataW.trod enc P w base spare held fuel t cs = some x → ∃ a, d.K w a cs ∧ B a
theorem open_row {H : Type} {enc : TypeId × Value → H} {P : Program} {w : World} {base : Nat} {spare : Nat → Bool} {held : Bool} {fuel : Nat} {t e : TypeId} {c : Value} {x : DataW H × List MemPlace} {α : Type} {d : Kd α} {B : α → Prop} (z : α)
    (ht : P.underlying t = some (.slice e)) (hsz : P.cellsOf e = d.sz) (he : Opens P e d B) (h : DataW.trod enc P w base spare held fuel t [c] = some x) :
    ∃ A cap l, c = .slice A l.length cap ∧ Kd.C d w A l.length l ∧ l.length ≤ cap ∧ l.length ≤ 9223372036854775807 ∧ ∀ y ∈ l, B y := by
  haveI : Inhabited α := ⟨z⟩
  rcases open_slice ht h with ⟨hc, _⟩ | ⟨a, len, cap, m, n, D, Pl, hc, _, hl, hm, hmm, _, hx⟩
  · obtain rfl := List.head_eq_of_cons_eq hc
    exact ⟨none, 0, [], rfl, Kd.C_nil _ _, Nat.le_refl _, by simp, fun y hy => by cases hy⟩
  · obtain rfl := List.head_eq_of_cons_eq hc
    have hlm : len ≤ m := by rw [hmm]; split <;> omega
    obtain ⟨f, hf⟩ := choose_lt (α := α) (n := len) (p := fun i y => (∃ c', c'.length = d.sz ∧ d.K w y c' ∧ ∀ k u, c'[k]? = some u → w.cell? (a.add (i * d.sz + k)) = some u) ∧ B y) (fun i hi => by
      obtain ⟨cs', h1, h2⟩ := hx i (by omega)
      obtain ⟨y, hk, hb⟩ := he h2
      refine ⟨y, ⟨cs', d.K_len hk, hk, fun k u hu => ?_⟩, hb⟩
      obtain ⟨_, hlen, hcell⟩ := World.cells?_some h1
      have hk2 : k < cs'.length := (List.getElem?_eq_some_iff.1 hu).1
      have := hcell k (by omega)
      rw [hsz, Addr.add_add] at this
      rw [this, hu])
    have hmax : len ≤ 9223372036854775807 := by unfold maxLen at hm; omega
    refine ⟨some a, cap, (List.range len).map f, by simp, ⟨by simp, by simpa using hmax, fun _ => ⟨a, rfl, fun j p hj => ?_⟩⟩, by simpa using hl, by simpa using hmax, fun y hy => ?_⟩
    · have hj2 : j < len := by simpa using (List.getElem?_eq_some_iff.1 hj).1
      rw [List.getElem?_map, List.getElem?_range hj2] at hj
      obtain rfl := Option.some.inj hj
      exact (hf j hj2).1
    · obtain ⟨j, hj, rfl⟩ := List.mem_map.1 hy
      exact (hf j (List.mem_range.1 hj)).2
theorem opens_int {P : Program} {t : TypeId} {k : IntKind} (ht : P.underlying t = some (.int k)) : Opens P t (Kd.int k) (fun x => (Lit.int k x).wf = true) := by
  intro H enc w base spare held fuel cs x h
  obtain ⟨n, rfl, _, hw⟩ := DataW.trod_int ht h
  exact ⟨n, rfl, hw⟩
end Go.Proofs.Ytcgdnfaclbnflaa.Args
