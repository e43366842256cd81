/- Texts of the seat's proofs, part 11: functions of the program told as plain functions, with their contracts, and what is shown of them. No condition. -/
import Derived.Test.YtakcaiigkdglhaaU
import Derived.Test.YtakcaiigkdglhaaM3
import Derived.Test.YtakcaiigkdglhaaM9
import Derived.Test.YtakcaiigkdglhaaM10
set_option linter.unusedVariables false
set_option linter.unusedSimpArgs false
namespace Go.Proofs.Ytakcaiigkdglhaa.G
open Go.RowKit Go.Proofs.YtakcaiigkdglhaaW.PrintWords
theorem fold_loopC {n : Nat} {σ ρ : Type} {L : Nat → σ → Int → Option ρ} {st : Nat → σ → σ} {fin : σ → ρ} {I : Nat → σ → Prop} {c : Nat}
    (hs : ∀ k i s, i < n → c ≤ k → I i s → L (k + 1) s (i : Int) = L k (st i s) ((i + 1 : Nat) : Int))
    (hI : ∀ i s, i < n → I i s → I (i + 1) (st i s))
    (he : ∀ k s, c ≤ k → I n s → L (k + 1) s (n : Int) = some (fin s)) :
    ∀ d i s k, i + d = n → I i s → d + c < k → L k s (i : Int) = some (fin ((List.range' i d).foldl (fun s i => st i s) s)) := by
  intro d
  induction d with
  | zero =>
    intro i s k h hi hk
    obtain ⟨k, rfl⟩ : ∃ m, k = m + 1 := ⟨k - 1, by omega⟩
    obtain rfl : i = n := by omega
    rw [he k s (by omega) hi]; simp
  | succ d ih =>
    intro i s k h hi hk
    obtain ⟨k, rfl⟩ : ∃ m, k = m + 1 := ⟨k - 1, by omega⟩
    rw [hs k i s (by omega) (by omega) hi, ih (i + 1) (st i s) k (by omega) (hI i s (by omega) hi) (by omega), List.range'_succ]
    rfl
theorem inv_loopC {n : Nat} {σ ρ : Type} {L : Nat → σ → Int → Option ρ} {I : Nat → σ → Prop} {R : ρ → Prop} {c : Nat}
    (hs : ∀ k i s, i < n → c ≤ k → I i s → (∃ s', L (k + 1) s (i : Int) = L k s' ((i + 1 : Nat) : Int) ∧ I (i + 1) s') ∨ ∃ r, L (k + 1) s (i : Int) = some r ∧ R r)
    (he : ∀ k s, c ≤ k → I n s → ∃ r, L (k + 1) s (n : Int) = some r ∧ R r) :
    ∀ d i s k, i + d = n → I i s → d + c < k → ∃ r, L k s (i : Int) = some r ∧ R r := by
  intro d
  induction d with
  | zero =>
    intro i s k h hi hk
    obtain ⟨k, rfl⟩ : ∃ m, k = m + 1 := ⟨k - 1, by omega⟩
    obtain rfl : i = n := by omega
    exact he k s (by omega) hi
  | succ d ih =>
    intro i s k h hi hk
    obtain ⟨k, rfl⟩ : ∃ m, k = m + 1 := ⟨k - 1, by omega⟩
    rcases hs k i s (by omega) (by omega) hi with ⟨s', h1, h2⟩ | ⟨r, h1, h2⟩
    · rw [h1]; exact ih (i + 1) s' k (by omega) h2 (by omega)
    · exact ⟨r, h1, h2⟩
theorem mark_loop {α ρ : Type} {l : List α} {f : Nat → α} {w : Nat → Int} {L : Nat → List α → Int → Int → Option ρ} {fin : List α → ρ} {c : Nat}
    (hs : ∀ k i acc, i < l.length → acc.length = l.length → c ≤ k → L (k + 1) acc (w i) (i : Int) = L k (acc.set i (f i)) (w (i + 1)) ((i + 1 : Nat) : Int))
    (he : ∀ k acc, acc.length = l.length → L (k + 1) acc (w l.length) (l.length : Int) = some (fin acc)) :
    ∀ d i k, i + d = l.length → d + c < k → L k ((List.range i).map f ++ l.drop i) (w i) (i : Int) = some (fin ((List.range l.length).map f)) := by
  intro d
  induction d with
  | zero =>
    intro i k h hk
    obtain ⟨k, rfl⟩ : ∃ m, k = m + 1 := ⟨k - 1, by omega⟩
    obtain rfl : i = l.length := by omega
    rw [he _ _ (by simp)]; simp
  | succ d ih =>
    intro i k h hk
    obtain ⟨k, rfl⟩ : ∃ m, k = m + 1 := ⟨k - 1, by omega⟩
    have hi : i < l.length := by omega
    rw [hs _ _ _ hi (by simp; omega) (by omega), ← ih (i + 1) k (by omega) (by omega)]
    congr 1
    have hl : ((List.range i).map f).length = i := by simp
    rw [List.set_append, if_neg (by omega), hl, Nat.sub_self, List.drop_eq_getElem_cons hi, List.set_cons_zero, List.range_succ, List.map_append, List.append_assoc]
    rfl
theorem mark_loop0 {α ρ : Type} {l : List α} {f : Nat → α} {w : Nat → Int} {L : Nat → List α → Int → Int → Option ρ} {fin : List α → ρ} {c : Nat}
    (hs : ∀ k i acc, i < l.length → acc.length = l.length → c ≤ k → L (k + 1) acc (w i) (i : Int) = L k (acc.set i (f i)) (w (i + 1)) ((i + 1 : Nat) : Int))
    (he : ∀ k acc, acc.length = l.length → L (k + 1) acc (w l.length) (l.length : Int) = some (fin acc)) (k : Nat) (hk : l.length + c < k) :
    L k l (w 0) 0 = some (fin ((List.range l.length).map f)) := by
  have := mark_loop hs he l.length 0 k (by omega) hk
  simpa using this
theorem fold_exact {n : Nat} {σ ρ : Type} {L : Nat → σ → Int → Option ρ} {M : Nat → σ → Option ρ} {st : Nat → σ → σ} {I : Nat → σ → Prop}
    (hs : ∀ k i s, i < n → I i s → L (k + 1) s (i : Int) = L k (st i s) ((i + 1 : Nat) : Int))
    (hI : ∀ i s, i < n → I i s → I (i + 1) (st i s))
    (he : ∀ k s, I n s → L (k + 1) s (n : Int) = M k s) :
    ∀ d i s k, i + d = n → I i s → L (k + d + 1) s (i : Int) = M k ((List.range' i d).foldl (fun s i => st i s) s) := by
  intro d
  induction d with
  | zero =>
    intro i s k h hi
    obtain rfl : i = n := by omega
    rw [Nat.add_zero, he k s hi]; simp
  | succ d ih =>
    intro i s k h hi
    rw [show k + (d + 1) + 1 = (k + d + 1) + 1 by omega, hs _ i s (by omega) hi, ih (i + 1) (st i s) k (by omega) (hI i s (by omega) hi), List.range'_succ]
    rfl
theorem wrap_nat (n : Nat) (h : n ≤ 9223372036854775807) : wrap64 (n : Int) = (n : Int) := wrap_id (by omega) (by omega)
end Go.Proofs.Ytakcaiigkdglhaa.G
namespace Go.Proofs.Ytakcaiigkdglhaa.C
open Go.RowKit Go.Proofs.Ytakcaiigkdglhaa.P Go.Proofs.Ytakcaiigkdglhaa.G Go.Proofs.YtakcaiigkdglhaaW.PrintWords
theorem markSlotS (l : List Sl) (hl : l.length ≤ 2000000) (a : Int) (ha : 0 ≤ a ∧ a ≤ 1000000000) (k : Nat) (hk : l.length < k) : laws_markSlotS.f k l a = some (a + 2 * l.length, (List.range l.length).map fun (i : Nat) => (⟨a + 2 * i, a + 2 * i + 1⟩ : Sl)) := by
  unfold laws_markSlotS.f
  have := mark_loop0 (l := l) (f := fun i => (⟨a + 2 * i, a + 2 * i + 1⟩ : Sl)) (w := fun i => a + 2 * i) (c := 0) (L := fun k acc w i => laws_markSlotS.l0 k acc w i) (fin := fun acc => (a + 2 * l.length, acc)) (fun k i acc hi hacc _ => ?_) (fun k acc hacc => ?_) k (by omega)
  · simp only [Int.natCast_zero, Int.mul_zero, Int.add_zero] at this; exact this
  · simp only [laws_markSlotS.l0, Option.bind_some]
    rw [if_pos (by omega), if_pos (by omega), wrap_succ hi (by omega), Int.toNat_natCast, rdSl (acc.set i _) i (by simp; omega), List.getElem_set_self, List.set_set, wrap_id (x := a + 2 * (i : Int) + 1) (by omega) (by omega), wrap_id (x := a + 2 * (i : Int) + 1 + 1) (by omega) (by omega)]
    congr 1; omega
  · simp only [laws_markSlotS.l0]
    rw [if_neg (by omega)]
theorem markPlan (x y : Int) (l : List Sl) (hl : l.length ≤ 2000000) (a : Int) (ha : 0 ≤ a ∧ a ≤ 1000000000) (k : Nat) (hk : l.length < k) : laws_markPlan.f k x y l a = some (a + 2 * l.length, (List.range l.length).map fun (i : Nat) => (⟨a + 2 * i, a + 2 * i + 1⟩ : Sl)) := by
  unfold laws_markPlan.f; rw [markSlotS l hl a ha k hk]; rfl
theorem heldSlotS (n : Nat) (hn : n ≤ 2000000) (a : Int) (ha : 0 ≤ a ∧ a ≤ 1000000000) (k : Nat) (hk : n < k) : laws_heldSlotS.f k ((List.range n).map fun (i : Nat) => (⟨a + 2 * i, a + 2 * i + 1⟩ : Sl)) a = some (a + 2 * n) := by
  unfold laws_heldSlotS.f
  have hlen : ((List.range n).map fun (i : Nat) => (⟨a + 2 * (i : Int), a + 2 * i + 1⟩ : Sl)).length = n := by simp
  have := track_loop0 (n := n) (c := 0) (L := fun k s i => laws_heldSlotS.l0 k ((List.range n).map fun (i : Nat) => (⟨a + 2 * (i : Int), a + 2 * i + 1⟩ : Sl)) s i) (F := fun i => a + 2 * (i : Int)) (r := a + 2 * n) (fun k i hi _ => ?_) (fun k _ => ?_) k (by omega)
  · simp only [Int.natCast_zero, Int.mul_zero, Int.add_zero] at this; exact this
  · simp only [laws_heldSlotS.l0]
    rw [if_pos (by omega), if_pos (by omega), rdSl _ i (by omega), wrap_succ hi (by omega), wrap_id (x := a + 2 * (i : Int) + 1) (by omega) (by omega), wrap_id (x := a + 2 * (i : Int) + 1 + 1) (by omega) (by omega), if_pos (by simp), if_pos (by simp)]
    congr 1; omega
  · simp only [laws_heldSlotS.l0]
    rw [if_neg (by omega)]
theorem heldPlan (x y : Int) (n : Nat) (hn : n ≤ 2000000) (a : Int) (ha : 0 ≤ a ∧ a ≤ 1000000000) (k : Nat) (hk : n < k) : laws_heldPlan.f k x y ((List.range n).map fun (i : Nat) => (⟨a + 2 * i, a + 2 * i + 1⟩ : Sl)) a = some (a + 2 * n) := by
  unfold laws_heldPlan.f
  rw [heldSlotS n hn a ha k hk, Option.bind_some, if_neg (by omega)]
def planMoved (st gap : Int) (l : List Sl) (by_ : Int) : Int × Int × List Sl × Bool := if (planOk st gap l && (decide (-1000000000000 ≤ by_ ∧ by_ ≤ 1000000000000) && timeOk (st + by_))) = true then (st + by_, gap, l, true) else (0, 0, [], false)
theorem planMoved_len (st gap : Int) (l : List Sl) (b : Int) : (planMoved st gap l b).2.2.1.length ≤ l.length := by unfold planMoved; split <;> simp
theorem moved_ok {st gap : Int} {l : List Sl} (h : planOk st gap l = true) (x : Int) : planOk x gap l = timeOk x := by
  have h' := h
  rw [planOk_iff] at h'
  rw [Bool.eq_iff_iff, planOk_iff, timeOk_iff]
  exact ⟨fun h => h.1, fun hx => ⟨hx, h'.2⟩⟩
theorem sPlanMoved (st gap : Int) (l : List Sl) (hl : l.length ≤ 1048576) (b : Int) (k : Nat) (hk : 1050000 ≤ k) : spec_PlanMoved.f k st gap l b = some (planMoved st gap l b) := by
  obtain ⟨k, rfl⟩ : ∃ j, k = j + 1 := ⟨k - 1, by omega⟩
  have hj : spec_PlanMoved.j0 (k + 1) b true st gap l = some (0, 0, [], false) := by simp [spec_PlanMoved.j0]
  unfold spec_PlanMoved.f planMoved
  rw [sPlanOk st gap l hl _ (by omega), l1In]
  simp only [Option.bind_some]
  cases h : planOk st gap l with
  | false => rw [if_neg (by decide), hj]; rfl
  | true =>
    have h' := h
    rw [planOk_iff] at h'
    by_cases h2 : -1000000000000 ≤ b ∧ b ≤ 1000000000000
    · rw [if_pos (by trivial), decide_eq_true h2]
      simp only [Bool.not_true, spec_PlanMoved.j0, spec_l13Copy.f, Option.bind_some, List.nil_append]
      rw [if_neg (by decide), if_pos (by simp; omega)]
      simp only [Option.bind_some]
      rw [wrap_id (x := st + b) (by omega) (by omega), sPlanOk _ gap l hl k (by omega), moved_ok h]
      simp only [Option.bind_some, Bool.true_and]
      split <;> rfl
    · rw [if_pos (by trivial), decide_eq_false h2, Bool.not_false, hj]; rfl
theorem iPlanMoved (st gap : Int) (l : List Sl) (hl : l.length ≤ 1048576) (b : Int) (k : Nat) (hk : 1050000 ≤ k) : impl_PlanMoved.f k st gap l b = some (planMoved st gap l b) := by
  unfold impl_PlanMoved.f planMoved
  rw [iPlanOk st gap l hl _ (by omega), in_, isTime]
  simp only [Option.bind_some, slices_Clone_Slot.f]
  cases h : planOk st gap l with
  | false => rw [if_neg (by decide)]; rfl
  | true =>
    have h' := h
    rw [planOk_iff] at h'
    by_cases h2 : -1000000000000 ≤ b ∧ b ≤ 1000000000000
    · rw [if_pos (by trivial), decide_eq_true h2, if_pos (by trivial), wrap_id (x := st + b) (by omega) (by omega), if_pos (show ([] : List Sl).length + l.length < 8796093022208 by simp; omega)]
      simp only [Option.bind_some, Bool.true_and]
      change (if timeOk (st + b) = true then _ else _) = _
      split <;> rfl
    · rw [if_pos (by trivial), decide_eq_false h2, if_neg (by decide)]; rfl
end Go.Proofs.Ytakcaiigkdglhaa.C
namespace Go.Proofs.Ytakcaiigkdglhaa.V
open Go.RowKit Go.Proofs.Ytakcaiigkdglhaa.P Go.Proofs.Ytakcaiigkdglhaa.C Go.Proofs.Ytakcaiigkdglhaa.G
theorem FnExactPlanMoved : ∀ (a0_0 : Int) (a0_1 : Int) (l0_2 : List (S88)) (a1 : Int), (Lit.int .i64 a0_0).wf = true → (Lit.int .i64 a0_1).wf = true → (l0_2.length ≤ 9223372036854775807 ∧ ∀ y ∈ l0_2, ((Lit.int .i64 y.f0).wf = true ∧ (Lit.int .i64 y.f1).wf = true)) → (Lit.int .i64 a1).wf = true → ∃ k, laws_FnExactPlanMoved.f k a0_0 a0_1 l0_2 a1 = some true := by
  intro st gap l b _ _ ⟨hl, _⟩ _
  refine ⟨2300000, ?_⟩
  unfold laws_FnExactPlanMoved.f
  rcases szPlan st gap l hl 1048576 (by omega) with h | ⟨h, hs⟩
  · rw [h]; simp
  rw [h, Option.bind_some, if_neg (by omega)]
  have hm : (l.map toSl).length = l.length := by simp
  rw [toPlan st gap l (by omega) _ (by omega)]
  simp only [Option.bind_some]
  rw [sPlanMoved _ _ _ (by omega) _ _ (by omega), iPlanMoved _ _ _ (by omega) _ _ (by omega)]
  simp only [Option.bind_some]
  have hn := planMoved_len st gap (l.map toSl) b
  have hj2 : ∀ (k : Nat) (m n : Nat) (x y : Int), 2200000 ≤ k → n ≤ 1100000 → laws_FnExactPlanMoved.j2 k (1 + 2 * n) false x y ((List.range n).map fun (i : Nat) => (⟨1 + 2 * i, 1 + 2 * i + 1⟩ : Sl)) = some true := by
    intro k m n x y hk hn
    obtain ⟨k, rfl⟩ : ∃ j, k = j + 1 := ⟨k - 1, by omega⟩
    simp only [laws_FnExactPlanMoved.j2]
    rw [if_neg (by decide), heldPlan _ _ _ (by omega) 1 (by omega) k (by omega), Option.bind_some, if_neg (by omega), if_pos (by trivial)]
  have hj1 : ∀ k, 2210000 ≤ k → laws_FnExactPlanMoved.j1 k b (planMoved st gap (l.map toSl) b).2.2.2 false st gap l (planMoved st gap (l.map toSl) b).1 (planMoved st gap (l.map toSl) b).2.1 (planMoved st gap (l.map toSl) b).2.2.1 (planMoved st gap (l.map toSl) b).1 (planMoved st gap (l.map toSl) b).2.1 (planMoved st gap (l.map toSl) b).2.2.1 = some true := by
    intro k hk
    obtain ⟨k, rfl⟩ : ∃ j, k = j + 1 := ⟨k - 1, by omega⟩
    simp only [laws_FnExactPlanMoved.j1]
    rw [if_neg (by decide), markPlan _ _ _ (by omega) 1 (by omega) k (by omega)]
    simp only [Option.bind_some]
    rw [heldPlan _ _ _ (by omega) 1 (by omega) k (by omega)]
    simp only [Option.bind_some]
    rw [if_neg (by omega), if_pos (by trivial), toPlan st gap l (by omega) k (by omega)]
    simp only [Option.bind_some]
    rw [iPlanMoved _ _ _ (by omega) _ _ (by omega)]
    simp only [Option.bind_some]
    rw [eqPlan _ _ _ (by omega) k (by omega)]
    simp only [Option.bind_some, if_true, bne_self_eq_false]
    exact hj2 k 0 _ _ _ (by omega) (by omega)
  rw [eqPlan _ _ _ (by omega) _ (by omega)]
  simp only [Option.bind_some, if_true, bne_self_eq_false]
  simp only [laws_FnExactPlanMoved.j0]
  rw [if_neg (by decide), toPlan st gap l (by omega) _ (by omega)]
  simp only [Option.bind_some]
  rw [eqPlan _ _ _ (by omega) _ (by omega)]
  simp only [Option.bind_some, if_true]
  rw [markPlan _ _ _ (by omega) 1 (by omega) _ (by omega)]
  simp only [Option.bind_some]
  rw [if_neg (by omega), eqPlan _ _ _ (by omega) _ (by omega)]
  simp only [Option.bind_some, if_true, bne_self_eq_false]
  exact hj1 _ (by omega)
end Go.Proofs.Ytakcaiigkdglhaa.V
