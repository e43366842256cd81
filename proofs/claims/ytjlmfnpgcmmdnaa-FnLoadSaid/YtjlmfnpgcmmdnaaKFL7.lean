/- Texts of the seat's proofs, part 7: functions of the program told as plain functions, with their contracts, and what is shown of them. No condition. -/
import Derived.Test.YtjlmfnpgcmmdnaaUKFL
import Derived.Test.YtjlmfnpgcmmdnaaKFL5
import Derived.Test.YtjlmfnpgcmmdnaaKFL6
import Derived.Test.YtjlmfnpgcmmdnaaKFL1
import Derived.Test.YtjlmfnpgcmmdnaaKFL4
import Derived.Test.YtjlmfnpgcmmdnaaKFL2
import Derived.Deep.Slices
import Derived.ProofKit
import Derived.OpenShut
set_option linter.unusedVariables false
set_option linter.unusedSimpArgs false
namespace Go.Proofs.Ytjlmfnpgcmmdnaa.C
open Go.RowKit Go.Proofs.Ytjlmfnpgcmmdnaa.P Go.Proofs.Ytjlmfnpgcmmdnaa.G Go.Proofs.YtjlmfnpgcmmdnaaW.PrintWords
theorem dCount (s : List Int) (p z : Int) (h : At s p) : ∃ v p' z', spec_l2DrawCount.f s p z = some (v, p', z') ∧ At s p' ∧ -1 ≤ v ∧ v ≤ 9223372036854775807 := by
  unfold spec_l2DrawCount.f
  obtain ⟨a, p1, z1, e1, a1, _, _⟩ := dBelow s p z 14 h
  rw [e1]; simp only [Option.bind_some]
  split
  · obtain ⟨v, p2, z2, e2, a2, hv⟩ := dPick s p1 z1 [(-1), 0, 1000000000000, 1000000000001, 500000000000, 666666666666, 9223372036854775807] a1 (by simp) (by simp)
    rw [e2]
    refine ⟨_, _, _, rfl, a2, ?_⟩
    simp at hv; omega
  · split
    · obtain ⟨v, p2, z2, e2, a2, h1, h2⟩ := dBelow s p1 z1 1000000000 a1
      rw [e2]
      have := h2 (by omega)
      refine ⟨_, _, _, rfl, a2, ?_⟩
      rw [wrap_id (by omega) (by omega)]; omega
    · split
      · obtain ⟨v, p2, z2, e2, a2, h1, h2⟩ := dBelow s p1 z1 6 a1
        rw [e2]
        have := h2 (by omega)
        exact ⟨_, _, _, rfl, a2, by omega⟩
      · obtain ⟨v, p2, z2, e2, a2, h1, h2⟩ := dBelow s p1 z1 5000 a1
        rw [e2]
        have := h2 (by omega)
        exact ⟨_, _, _, rfl, a2, by omega⟩
theorem dBody (s : List Int) (p z a : Int) (h : At s p) (ha : 0 ≤ a ∧ a ≤ 1000) (k : Nat) (hk : 1100 ≤ k) : ∃ t p' z', spec_l4DrawBody.f k s p z a = some (t, p', z') ∧ At s p' := by
  unfold spec_l4DrawBody.f
  rw [wrap_id (x := a + 1) (by omega) (by omega)]
  obtain ⟨n, p1, z1, e1, a1, b1, b2⟩ := dBelow s p z (a + 1) h
  rw [e1]; simp only [Option.bind_some]
  have := b2 (by omega)
  obtain ⟨m, rfl⟩ := Int.eq_ofNat_of_zero_le b1
  have hL : ∀ (d i k : Nat) (p z : Int) (xs : List Int), i + d = m → d < k → At s p → xs.length = i → ∃ t p' z', spec_l4DrawBody.l0 k xs (m : Int) (i : Int) s p z = some (t, p', z') ∧ At s p' := by
    intro d
    induction d with
    | zero =>
      intro i k p z xs hi hk h hx
      obtain ⟨k, rfl⟩ : ∃ j, k = j + 1 := ⟨k - 1, by omega⟩
      simp only [spec_l4DrawBody.l0]
      rw [if_neg (by omega)]; exact ⟨_, _, _, rfl, h⟩
    | succ d ih =>
      intro i k p z xs hi hk h hx
      obtain ⟨k, rfl⟩ : ∃ j, k = j + 1 := ⟨k - 1, by omega⟩
      simp only [spec_l4DrawBody.l0]
      obtain ⟨v, p2, z2, e2, a2, _⟩ := dPick s p z [97, 98, 99, 32, 48, 0, 255, 128, 34, 92] h (by simp) (by simp)
      rw [if_pos (by omega), e2]; simp only [Option.bind_some]
      rw [if_pos (by omega), wrap_succ (n := m) (by omega) (by omega)]
      exact ih (i + 1) k _ _ _ (by omega) (by omega) a2 (by simp; omega)
  exact hL m 0 k p1 z1 [] (by omega) (by omega) a1 rfl
theorem dFrame (s : List Int) (p z t : Int) (h : At s p) (k : Nat) (hk : 1100 ≤ k) : ∃ a b c d e f p' z', spec_l15DrawFrame.f k s p z t = some (a, b, c, d, e, f, p', z') ∧ At s p' := by
  unfold spec_l15DrawFrame.f
  obtain ⟨a, p1, z1, e1, a1, _⟩ := dBelow s p z 4 h
  rw [e1]; simp only [Option.bind_some]
  obtain ⟨b, p2, z2, e2, a2, _⟩ := dBelow s p1 z1 5 a1
  rw [e2]; simp only [Option.bind_some]
  obtain ⟨c, p3, z3, e3, a3, _⟩ := dBelow s p2 z2 3 a2
  rw [e3]; simp only [Option.bind_some]
  obtain ⟨d, p4, z4, e4, a4, _⟩ := dBelow s p3 z3 14 a3
  rw [e4]; simp only [Option.bind_some]
  obtain ⟨f, p5, z5, e5, a5⟩ := dBody s p4 z4 3 a4 (by omega) k hk
  rw [e5]; exact ⟨_, _, _, _, _, _, _, _, rfl, a5⟩
theorem dBusL (s : List Int) (n : Nat) (hn : n ≤ 60) : ∀ (d i k : Nat) (p z t : Int) (l : List Fr), i + d = n → d + 1100 < k → At s p → l.length = i → ∃ l' p' z', spec_l15DrawBus.l0 k (n : Int) l t (i : Int) s p z = some (l', p', z') ∧ At s p' ∧ l'.length = n := by
  intro d
  induction d with
  | zero =>
    intro i k p z t l hi hk h hl
    obtain ⟨k, rfl⟩ : ∃ j, k = j + 1 := ⟨k - 1, by omega⟩
    simp only [spec_l15DrawBus.l0]
    rw [if_neg (by omega)]
    split
    · obtain ⟨j, p1, z1, e1, a1, b1, b2⟩ := dBelow s p z (l.length : Int) h
      rw [e1]; simp only [Option.bind_some]
      have := b2 (by omega)
      obtain ⟨c, p2, z2, e2, a2, _⟩ := dBelow s p1 z1 30 a1
      rw [e2]; simp only [Option.bind_some]
      simp only [if_pos (show 0 ≤ j from b1), if_pos (show j < (l.length : Int) from this)]
      split
      · exact ⟨_, _, _, rfl, a2, by simp; omega⟩
      split
      · exact ⟨_, _, _, rfl, a2, by simp; omega⟩
      split
      · obtain ⟨v, p3, z3, e3, a3, _⟩ := dBelow s p2 z2 2 a2
        rw [e3]; simp only [Option.bind_some]; exact ⟨_, _, _, rfl, a3, by simp; omega⟩
      split
      · exact ⟨_, _, _, rfl, a2, by simp; omega⟩
      · exact ⟨_, _, _, rfl, a2, by omega⟩
    · exact ⟨_, _, _, rfl, h, by omega⟩
  | succ d ih =>
    intro i k p z t l hi hk h hl
    obtain ⟨k, rfl⟩ : ∃ j, k = j + 1 := ⟨k - 1, by omega⟩
    simp only [spec_l15DrawBus.l0]
    obtain ⟨v, p1, z1, e1, a1, _⟩ := dBelow s p z 20 h
    rw [if_pos (by omega), e1]; simp only [Option.bind_some]
    obtain ⟨a, b, c, dd, e, f, p2, z2, e2, a2⟩ := dFrame s p1 z1 (wrap64 (t + v)) a1 k (by omega)
    rw [e2]; simp only [Option.bind_some]
    rw [if_pos (by omega), wrap_succ (n := n) (by omega) (by omega)]
    exact ih (i + 1) k _ _ _ _ (by omega) (by omega) a2 (by simp; omega)
theorem dBus (s : List Int) (p z a : Int) (h : At s p) (ha : 0 ≤ a ∧ a ≤ 60) (k : Nat) (hk : 1300 ≤ k) : ∃ l p' z', spec_l15DrawBus.f k s p z a = some (l, p', z') ∧ At s p' ∧ l.length ≤ 60 := by
  obtain ⟨k, rfl⟩ : ∃ j, k = j + 1 := ⟨k - 1, by omega⟩
  unfold spec_l15DrawBus.f
  rw [wrap_id (x := a + 1) (by omega) (by omega)]
  obtain ⟨n, p1, z1, e1, a1, b1, b2⟩ := dBelow s p z (a + 1) h
  rw [e1]; simp only [Option.bind_some]
  have := b2 (by omega)
  obtain ⟨o, p2, z2, e2, a2⟩ := dOnce s p1 z1 25 a1
  rw [e2]; simp only [Option.bind_some, spec_l15DrawBus.j0]
  obtain ⟨v, p3, z3, e3, a3, _⟩ := dBelow s p2 z2 20 a2
  rw [e3]; simp only [Option.bind_some]
  split
  · obtain ⟨l, p4, z4, e4, a4, hl⟩ := dBusL s 60 (by omega) 60 0 k p3 z3 v [] (by omega) (by omega) a3 rfl
    exact ⟨_, _, _, e4, a4, by omega⟩
  · obtain ⟨m, rfl⟩ := Int.eq_ofNat_of_zero_le b1
    obtain ⟨l, p4, z4, e4, a4, hl⟩ := dBusL s m (by omega) m 0 k p3 z3 v [] (by omega) (by omega) a3 rfl
    exact ⟨_, _, _, e4, a4, by omega⟩
theorem dSize (s : List Int) (hs : s.length ≤ 1048576) (a : Int) (ha : 2 ≤ a ∧ a ≤ 1000) : ∃ v, spec_l1Size.f s a = some v ∧ 0 ≤ v ∧ v ≤ a := by
  unfold spec_l1Size.f
  have h1 : 0 ≤ (s.length : Int) / 20 := Int.ediv_nonneg (by omega) (by omega)
  have h2 : (s.length : Int) / 20 ≤ 1048576 := by omega
  rw [wrap_id (x := (s.length : Int) / 20) (by omega) (by omega), wrap_id (x := 2 + (s.length : Int) / 20) (by omega) (by omega)]
  split
  · exact ⟨_, rfl, by omega, by omega⟩
  · exact ⟨_, rfl, by omega, by omega⟩
theorem dTimes15 (s : List Int) (hs : s.length ≤ 1048576) (k : Nat) (hk : 1050000 ≤ k) : ∃ l a b, spec_l15DrawTimes.f k s = some (l, a, b) ∧ l.length ≤ 60 := by
  unfold spec_l15DrawTimes.f
  obtain ⟨z0, e0, a0⟩ := dNew s hs k (by omega)
  rw [e0, Option.bind_some]; dsimp only
  obtain ⟨n, en, n1, n2⟩ := dSize s hs 12 (by omega)
  rw [en, Option.bind_some]
  obtain ⟨l, p1, z1, e1, a1, hl⟩ := dBus s 0 z0 n a0 (by omega) k (by omega)
  rw [e1, Option.bind_some]; dsimp only
  obtain ⟨u, p2, z2, e2, a2, _⟩ := dBelow s p1 z1 150 a1
  rw [e2, Option.bind_some]; dsimp only
  obtain ⟨o, p3, z3, e3, a3⟩ := dOnce s p2 z2 20 a2
  rw [e3, Option.bind_some]; dsimp only
  cases o with
  | true =>
    rw [if_pos rfl]
    obtain ⟨v, p4, z4, e4, a4, _⟩ := dCount s p3 z3 a3
    rw [e4, Option.bind_some]; dsimp only
    obtain ⟨w, p5, z5, e5, a5, _⟩ := dCount s p4 z4 a4
    rw [e5, Option.bind_some]; exact ⟨_, _, _, rfl, hl⟩
  | false =>
    rw [if_neg (by decide)]
    obtain ⟨v, p4, z4, e4, a4, _⟩ := dBelow s p3 z3 200 a3
    rw [e4, Option.bind_some]; dsimp only
    obtain ⟨w, p5, z5, e5, a5, _⟩ := dBelow s p4 z4 20 a4
    rw [e5, Option.bind_some]; exact ⟨_, _, _, rfl, hl⟩
theorem dBig (s : List Int) : laws_big.f s = some (decide ((s.length : Int) > 1048576)) := rfl
end Go.Proofs.Ytjlmfnpgcmmdnaa.C
namespace Go.Proofs.Ytjlmfnpgcmmdnaa.V
open Go.RowKit Go.Proofs.Ytjlmfnpgcmmdnaa.P Go.Proofs.Ytjlmfnpgcmmdnaa.C Go.Proofs.Ytjlmfnpgcmmdnaa.G
theorem dLoad15 (s : List Int) (hs : s.length ≤ 1048576) (k : Nat) (hk : 1050000 ≤ k) : ∃ l a b, spec_DrawBusLoad.f k s = some (l, a, b) ∧ l.length ≤ 60 := by
  unfold spec_DrawBusLoad.f
  obtain ⟨l, a, b, e, hl⟩ := dTimes15 s hs k hk
  rw [e, Option.bind_some]
  exact ⟨l, a, b, rfl, hl⟩
theorem sumQ_append (x y : List Iv) : sumQ (x ++ y) = sumQ x + sumQ y := by
  induction x with
  | nil => simp [sumQ]
  | cons z zs ih => simp only [List.cons_append, sumQ, ih]; omega
theorem sumQ_nonneg (q : List Iv) (h : ∀ y ∈ q, y.f0 < y.f1) : 0 ≤ sumQ q := by
  induction q with
  | nil => simp [sumQ]
  | cons z zs ih =>
    have h1 := h z List.mem_cons_self
    have h2 := ih (fun y hy => h y (List.mem_cons_of_mem _ hy))
    simp only [sumQ]; omega
theorem sumQ_take (q : List Iv) (h : ∀ y ∈ q, y.f0 < y.f1) (i : Nat) : 0 ≤ sumQ (q.take i) ∧ sumQ (q.take i) ≤ sumQ q := by
  have h1 := sumQ_nonneg (q.take i) (fun y hy => h y (List.mem_of_mem_take hy))
  have h2 := sumQ_nonneg (q.drop i) (fun y hy => h y (List.mem_of_mem_drop hy))
  have h3 := sumQ_append (q.take i) (q.drop i)
  rw [List.take_append_drop] at h3
  omega
theorem sumQ_succ (q : List Iv) (i : Nat) (hi : i < q.length) : sumQ (q.take (i + 1)) = sumQ (q.take i) + (q[i].f1 - q[i].f0) := by
  rw [List.take_succ_eq_append_getElem hi, sumQ_app]
theorem loadF_eq (l : List Fr) (a b : Int) (h : timesOk l a b = true) : ∀ i, i ≤ (quiet l a b).length → loadF (wrap64 (b - a)) (quiet l a b) i = b - a - sumQ ((quiet l a b).take i) := by
  obtain ⟨hc, _, hq1, hq2⟩ := quiet_calm h
  rw [timesOk_iff] at h
  intro i
  induction i with
  | zero => intro _; rw [loadF, wrap_id (by omega) (by omega), List.take_zero]; simp [sumQ]
  | succ i ih =>
    intro hi
    have hy := hc _ (List.getElem_mem (show i < (quiet l a b).length by omega))
    have ht := sumQ_take (quiet l a b) (fun y hy => (hc y hy).2.1) i
    have ht2 := sumQ_take (quiet l a b) (fun y hy => (hc y hy).2.1) (i + 1)
    obtain ⟨y1, y2, y3, _⟩ := hy
    rw [loadF_succ _ _ i (by omega), ih (by omega)]
    rw [sumQ_succ _ i (by omega)] at ht2 ⊢
    rw [wrap_id (x := (quiet l a b)[i].f1 - (quiet l a b)[i].f0) (by omega) (by omega), wrap_id (by omega) (by omega)]
    omega
theorem loadL1 (l : List Fr) (hl : l.length ≤ 60) (a b : Int) (q : List Iv) (x i : Int) (y0 y1 : Int) (hy : ∀ m (hm : m < l.length), ¬ (l[m].f3 < y1 ∧ y0 < l[m].f4)) (c : Nat) (h : ∀ k', c ≤ k' → laws_FnLoad.l0 k' l a b q x (wrap64 (i + 1)) = some true) :
    ∀ d m k, m + d = l.length → d + c < k → laws_FnLoad.l1 k l a b q x i (m : Int) y0 y1 = some true := by
  intro d
  induction d with
  | zero =>
    intro m k hm hk
    obtain ⟨k, rfl⟩ : ∃ j, k = j + 1 := ⟨k - 1, by omega⟩
    simp only [laws_FnLoad.l1]
    rw [if_neg (by omega)]
    exact h k (by omega)
  | succ d ih =>
    intro m k hm hk
    obtain ⟨k, rfl⟩ : ∃ j, k = j + 1 := ⟨k - 1, by omega⟩
    have ih := ih (m + 1) k (by omega) (by omega)
    have hy := hy m (by omega)
    simp only [laws_FnLoad.l1]
    rw [if_pos (by omega), if_pos (by omega), rdFr l m (by omega), wrap_succ (show m < l.length by omega) (by omega)]
    by_cases h1 : l[m].f3 < y1
    · rw [if_pos h1, if_neg (by omega)]; exact ih
    · rw [if_neg h1]; exact ih
theorem loadL0 {l : List Fr} {a b : Int} (h : busOk l = true ∧ 0 ≤ a ∧ a ≤ b ∧ b ≤ 1000000000000) (hl : l.length ≤ 60) (q : List Iv) (hc : ∀ y ∈ q, C.Calm l a b y) (hg : ∀ j (hj : j + 1 < q.length), (q[j]'(by omega)).f1 < q[j + 1].f0)
    (hq1 : 0 ≤ sumQ q) (hq2 : sumQ q ≤ b - a) (hn : q.length ≤ l.length + 1) : ∀ d i k, i + d = q.length → 70 * d + 200 < k →
    laws_FnLoad.l0 k l a b q (b - a - sumQ q + sumQ (q.take i)) (i : Int) = some true := by
  intro d
  induction d with
  | zero =>
    intro i k hi hk
    obtain ⟨k, rfl⟩ : ∃ j, k = j + 1 := ⟨k - 1, by omega⟩
    simp only [laws_FnLoad.l0]
    rw [if_neg (by omega), List.take_of_length_le (by omega), wrap_id (x := b - a) (by omega) (by omega), Int.sub_add_cancel, beq_self_eq_true]
  | succ d ih =>
    intro i k hi hk
    obtain ⟨k, rfl⟩ : ∃ j, k = (j + 1) + 1 := ⟨k - 2, by omega⟩
    have hil : i < q.length := by omega
    obtain ⟨y1, y2, y3, y4⟩ := hc _ (List.getElem_mem hil)
    have ht := sumQ_take q (fun y hy => (hc y hy).2.1) i
    have ht2 := sumQ_take q (fun y hy => (hc y hy).2.1) (i + 1)
    have hs := sumQ_succ q i hil
    have hw : wrap64 ((wrap64 ((b - a - sumQ q + sumQ (q.take i)) + q[i].f1)) - q[i].f0) = b - a - sumQ q + sumQ (q.take (i + 1)) := by
      rw [wrap_id (x := (b - a - sumQ q + sumQ (q.take i)) + q[i].f1) (by omega) (by omega), wrap_id (by omega) (by omega), hs]; omega
    have hj : laws_FnLoad.j2 (k + 1) l a b q (b - a - sumQ q + sumQ (q.take (i + 1))) (i : Int) false q[i].f0 q[i].f1 = some true := by
      simp only [laws_FnLoad.j2]
      rw [if_neg (by decide)]
      refine loadL1 l hl a b q _ (i : Int) _ _ y4 (70 * d + 201) (fun k' hk' => ?_) l.length 0 k (by omega) (by omega)
      rw [wrap_succ hil (by omega)]
      exact ih (i + 1) k' (by omega) (by omega)
    simp only [laws_FnLoad.l0]
    rw [if_pos (by omega), if_pos (by omega), rdIv q i hil, if_neg (by omega), if_neg (by omega), if_neg (by omega), hw]
    by_cases h0 : (i : Int) > 0
    · have hwi : wrap64 ((i : Int) - 1) = ((i - 1 : Nat) : Int) := by rw [wrap_id (by omega) (by omega)]; omega
      have hg1 := hg (i - 1) (by omega)
      have hii : q[i - 1 + 1]'(by omega) = q[i] := by congr 1; omega
      rw [hii] at hg1
      rw [if_pos h0, hwi, if_pos (by omega), if_pos (by omega), rdIv q (i - 1) (by omega), decide_eq_false (by omega)]
      exact hj
    · rw [if_neg h0]; exact hj
theorem FnLoad : ∀ (l0 : List Int), (l0.length ≤ 9223372036854775807 ∧ ∀ y ∈ l0, (Lit.int .u8 y).wf = true) → ∃ k, laws_FnLoad.f k l0 = some true := by
  intro s ⟨hs, _⟩
  refine ⟨3000000, ?_⟩
  unfold laws_FnLoad.f
  rw [dBig, Option.bind_some]
  by_cases hbig : (s.length : Int) > 1048576
  · rw [decide_eq_true hbig, if_pos rfl]
  rw [decide_eq_false hbig, if_neg (by decide)]
  obtain ⟨l, a, b, e, hl⟩ := dLoad15 s (by omega) 3000000 (by omega)
  rw [e, Option.bind_some]; dsimp only
  rw [iBusLoad l (by omega) a b _ (by omega), Option.bind_some, iBusQuiet l (by omega) a b _ (by omega), Option.bind_some, sBusLoad l (by omega) a b _ (by omega), Option.bind_some, if_pos rfl, sQuiet l (by omega) a b _ (by omega), Option.bind_some, bne_self_eq_false]
  obtain ⟨K, hK, hK2⟩ : ∃ K, 3000000 = K + 1 ∧ 100000 ≤ K := ⟨2999999, rfl, by omega⟩
  rw [hK]
  simp only [laws_FnLoad.j0]
  rw [if_neg (by decide)]
  unfold busLoad quietOf
  cases h : timesOk l a b with
  | false =>
    rw [show (if (false = true) then loadF (wrap64 (b - a)) (quiet l a b) (quiet l a b).length else (-1 : Int)) = -1 from if_neg (by decide), show (if (false = true) then quiet l a b else []) = [] from if_neg (by decide), if_pos (by decide)]; rfl
  | true =>
    obtain ⟨hc, hg, hq1, hq2⟩ := quiet_calm h
    have hn := quiet_len l a b
    have := loadL0 ((timesOk_iff l a b).1 h) hl (quiet l a b) hc hg hq1 hq2 hn (quiet l a b).length 0 K (by omega) (by omega)
    rw [List.take_zero, show sumQ [] = 0 from rfl, Int.add_zero] at this
    rw [if_pos rfl, if_pos rfl, loadF_eq l a b h _ (Nat.le_refl _), List.take_length, if_neg (by omega)]
    exact this
end Go.Proofs.Ytjlmfnpgcmmdnaa.V
namespace Go.Proofs.Ytjlmfnpgcmmdnaa.Args
open Go.ChangeShapes Go.WideShapes Go.Deep Go.Proofs.YtjlmfnpgcmmdnaaW.PrintWords
def Opens (P : Program) (t : TypeId) {α : Type} (d : Kd α) (B : α → Prop) : Prop :=
  ∀ {H : Type} {enc : TypeId × Value → H} {w : World} {base : Nat} {spare : Nat → Bool} {held : Bool} {fuel : Nat} {cs : List Value} {x : DataW H × List MemPlace},
    DataW.trod enc P w base spare held fuel t cs = some x → ∃ a, d.K w a cs ∧ B a
theorem open_row {H : Type} {enc : TypeId × Value → H} {P : Program} {w : World} {base : Nat} {spare : Nat → Bool} {held : Bool} {fuel : Nat} {t e : TypeId} {c : Value} {x : DataW H × List MemPlace} {α : Type} {d : Kd α} {B : α → Prop} (z : α)
    (ht : P.underlying t = some (.slice e)) (hsz : P.cellsOf e = d.sz) (he : Opens P e d B) (h : DataW.trod enc P w base spare held fuel t [c] = some x) :
    ∃ A cap l, c = .slice A l.length cap ∧ Kd.C d w A l.length l ∧ l.length ≤ cap ∧ l.length ≤ 9223372036854775807 ∧ ∀ y ∈ l, B y := by
  haveI : Inhabited α := ⟨z⟩
  rcases open_slice ht h with ⟨hc, _⟩ | ⟨a, len, cap, m, n, D, Pl, hc, _, hl, hm, hmm, _, hx⟩
  · obtain rfl := List.head_eq_of_cons_eq hc
    exact ⟨none, 0, [], rfl, Kd.C_nil _ _, Nat.le_refl _, by simp, fun y hy => by cases hy⟩
  · obtain rfl := List.head_eq_of_cons_eq hc
    have hlm : len ≤ m := by rw [hmm]; split <;> omega
    obtain ⟨f, hf⟩ := choose_lt (α := α) (n := len) (p := fun i y => (∃ c', c'.length = d.sz ∧ d.K w y c' ∧ ∀ k u, c'[k]? = some u → w.cell? (a.add (i * d.sz + k)) = some u) ∧ B y) (fun i hi => by
      obtain ⟨cs', h1, h2⟩ := hx i (by omega)
      obtain ⟨y, hk, hb⟩ := he h2
      refine ⟨y, ⟨cs', d.K_len hk, hk, fun k u hu => ?_⟩, hb⟩
      obtain ⟨_, hlen, hcell⟩ := World.cells?_some h1
      have hk2 : k < cs'.length := (List.getElem?_eq_some_iff.1 hu).1
      have := hcell k (by omega)
      rw [hsz, Addr.add_add] at this
      rw [this, hu])
    have hmax : len ≤ 9223372036854775807 := by unfold maxLen at hm; omega
    refine ⟨some a, cap, (List.range len).map f, by simp, ⟨by simp, by simpa using hmax, fun _ => ⟨a, rfl, fun j p hj => ?_⟩⟩, by simpa using hl, by simpa using hmax, fun y hy => ?_⟩
    · have hj2 : j < len := by simpa using (List.getElem?_eq_some_iff.1 hj).1
      rw [List.getElem?_map, List.getElem?_range hj2] at hj
      obtain rfl := Option.some.inj hj
      exact (hf j hj2).1
    · obtain ⟨j, hj, rfl⟩ := List.mem_map.1 hy
      exact (hf j (List.mem_range.1 hj)).2
theorem opens_int {P : Program} {t : TypeId} {k : IntKind} (ht : P.underlying t = some (.int k)) : Opens P t (Kd.int k) (fun x => (Lit.int k x).wf = true) := by
  intro H enc w base spare held fuel cs x h
  obtain ⟨n, rfl, _, hw⟩ := DataW.trod_int ht h
  exact ⟨n, rfl, hw⟩
end Go.Proofs.Ytjlmfnpgcmmdnaa.Args
