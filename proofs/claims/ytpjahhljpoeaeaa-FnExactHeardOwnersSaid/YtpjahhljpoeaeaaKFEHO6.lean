/- Texts of the seat's proofs, part 6: functions of the program told as plain functions, with their contracts, and what is shown of them. No condition. -/
import Derived.Test.YtpjahhljpoeaeaaUKFEHO
import Derived.Test.YtpjahhljpoeaeaaKFEHO1
import Derived.Test.YtpjahhljpoeaeaaKFEHO5
import Derived.Test.YtpjahhljpoeaeaaKFEHO3
import Derived.Test.YtpjahhljpoeaeaaKFEHO2
import Derived.Test.YtpjahhljpoeaeaaKFEHO4
import Derived.Deep.Slices
import Derived.ProofKit
import Derived.OpenShut
set_option linter.unusedVariables false
set_option linter.unusedSimpArgs false
namespace Go.Proofs.Ytpjahhljpoeaeaa.P
open Go.RowKit Go.Proofs.YtpjahhljpoeaeaaW.PrintWords Go.Proofs.YtpjahhljpoeaeaaW.PrintLast Go.Proofs.YtpjahhljpoeaeaaW.PrintMore
attribute [local go_sem] max2_int min2_int max_two min_two max_three min_three max_four min_four
set_option linter.unusedVariables false
set_option linter.unusedSimpArgs false
end Go.Proofs.Ytpjahhljpoeaeaa.P

namespace Go.Proofs.Ytpjahhljpoeaeaa.P
open Go.RowKit Go.Proofs.YtpjahhljpoeaeaaW.PrintWords Go.Proofs.YtpjahhljpoeaeaaW.PrintLast Go.Proofs.YtpjahhljpoeaeaaW.PrintMore
attribute [local go_sem] max2_int min2_int max_two min_two max_three min_three max_four min_four
set_option linter.unusedVariables false
set_option linter.unusedSimpArgs false
end Go.Proofs.Ytpjahhljpoeaeaa.P

namespace Go.Proofs.Ytpjahhljpoeaeaa.C
open Go.RowKit Go.Proofs.Ytpjahhljpoeaeaa.P Go.Proofs.Ytpjahhljpoeaeaa.G Go.Proofs.YtpjahhljpoeaeaaW.PrintWords
def hasI (xs : List Int) (v : Int) : Bool := found (fun i => xs[i]? == some v) (fun _ => true) false (List.range xs.length)
theorem sHas (xs : List Int) (hx : xs.length ≤ 2000000) (v : Int) (k : Nat) (hk : xs.length < k) : spec_l16Has.f k xs v = some (hasI xs v) := by
  unfold spec_l16Has.f hasI
  refine find_loop0 (n := xs.length) (c := 0) (L := fun k i => spec_l16Has.l0 k xs v i) (fun k i hi _ => ?_) (fun k => ?_) k (by omega)
  · simp only [spec_l16Has.l0]
    rw [if_pos (by omega), if_pos (by omega), rdI xs i hi, wrap_succ hi (by omega), List.getElem?_eq_getElem hi]
    by_cases h : xs[i] = v <;> simp [h]
  · simp only [spec_l16Has.l0]
    rw [if_neg (by omega)]
def slots (l : List H) : List Int := l.map fun x => x.f0
theorem slots_len (l : List H) : (slots l).length = l.length := by simp [slots]
theorem sSlots (l : List H) (hl : l.length ≤ 2000000) (k : Nat) (hk : l.length < k) : spec_l16Slots.f k l = some (slots l) := by
  unfold spec_l16Slots.f
  have := track_loop0 (n := l.length) (c := 0) (L := fun k s i => spec_l16Slots.l0 k l s i) (F := fun i => (l.take i).map fun x => x.f0) (r := slots l) (fun k i hi _ => ?_) (fun k _ => ?_) k (by omega)
  · exact this
  · simp only [spec_l16Slots.l0]
    rw [if_pos (by omega), if_pos (by omega), if_pos (by simp; omega), rdH l i hi, wrap_succ hi (by omega), List.take_succ_eq_append_getElem hi, List.map_append]
    rfl
  · simp only [spec_l16Slots.l0]
    rw [if_neg (by omega)]; simp [slots]
theorem iSlots (l : List H) (hl : l.length ≤ 2000000) (k : Nat) (hk : l.length < k) : impl_slotsOf.f k l = some (slots l) := by
  unfold impl_slotsOf.f
  have := track_loop0 (n := l.length) (c := 0) (L := fun k s i => impl_slotsOf.l0 k s l (l.length : Int) i) (F := fun i => (l.take i).map fun x => x.f0) (r := slots l) (fun k i hi _ => ?_) (fun k _ => ?_) k (by omega)
  · exact this
  · simp only [impl_slotsOf.l0]
    rw [if_pos (by omega), if_pos (by omega), if_pos (by omega), if_pos (by simp; omega), rdH l i hi, wrap_succ hi (by omega), List.take_succ_eq_append_getElem hi, List.map_append]
    rfl
  · simp only [impl_slotsOf.l0]
    rw [if_neg (by omega)]; simp [slots]
end Go.Proofs.Ytpjahhljpoeaeaa.C
namespace Go.Proofs.Ytpjahhljpoeaeaa.P
open Go.RowKit Go.Proofs.YtpjahhljpoeaeaaW.PrintWords Go.Proofs.YtpjahhljpoeaeaaW.PrintLast Go.Proofs.YtpjahhljpoeaeaaW.PrintMore
attribute [local go_sem] max2_int min2_int max_two min_two max_three min_three max_four min_four
set_option linter.unusedVariables false
set_option linter.unusedSimpArgs false
end Go.Proofs.Ytpjahhljpoeaeaa.P

namespace Go.Proofs.Ytpjahhljpoeaeaa.P
open Go.RowKit Go.Proofs.YtpjahhljpoeaeaaW.PrintWords Go.Proofs.YtpjahhljpoeaeaaW.PrintLast Go.Proofs.YtpjahhljpoeaeaaW.PrintMore
attribute [local go_sem] max2_int min2_int max_two min_two max_three min_three max_four min_four
set_option linter.unusedVariables false
set_option linter.unusedSimpArgs false
end Go.Proofs.Ytpjahhljpoeaeaa.P

namespace Go.Proofs.Ytpjahhljpoeaeaa.C
open Go.RowKit Go.Proofs.Ytpjahhljpoeaeaa.P Go.Proofs.Ytpjahhljpoeaeaa.G Go.Proofs.YtpjahhljpoeaeaaW.PrintWords
def hearF (l : List H) (p : List Sl) : Nat → List Int
  | 0 => []
  | i + 1 => match l[i]? with
    | some x => match p[x.f0.toNat]? with
      | some y => hearF l p i ++ [y.f0]
      | none => hearF l p i
    | none => hearF l p i
theorem hearF_succ {l : List H} {p : List Sl} (i : Nat) (hi : i < l.length) (h0 : 0 ≤ l[i].f0) : hearF l p (i + 1) = if h : l[i].f0 < (p.length : Int) then hearF l p i ++ [(p[l[i].f0.toNat]'(by omega)).f0] else hearF l p i := by
  rw [hearF, List.getElem?_eq_getElem hi]
  simp only
  split
  · rename_i y hy
    obtain ⟨h1, h2⟩ := List.getElem?_eq_some_iff.1 hy
    rw [dif_pos (by omega)]
    subst h2; rfl
  · rename_i hy
    rw [List.getElem?_eq_none_iff] at hy
    rw [dif_neg (by omega)]
theorem heard_get {l : List H} (h : heardOk l = true) (i : Nat) (hi : i < l.length) : 0 ≤ l[i].f0 ∧ l[i].f0 ≤ 15 ∧ (i : Int) ≤ l[i].f0 := by
  unfold heardOk at h
  rw [all_iff] at h
  have h1 := h i hi
  rw [hq_eq l i hi] at h1
  simp only [Bool.and_eq_true, decide_eq_true_eq] at h1
  exact ⟨h1.1.1.1, h1.1.1.2, heard_pos h i hi⟩
theorem hearF_len {l : List H} {p : List Sl} (h : heardOk l = true) (hp : p.length ≤ 12) : ∀ i, i ≤ l.length → (hearF l p i).length ≤ 12 ∧ (hearF l p i).length ≤ i := by
  intro i
  induction i with
  | zero => intro _; simp [hearF]
  | succ i ih =>
    intro hi
    have hg := heard_get h i (by omega)
    have := ih (by omega)
    rw [hearF_succ i (by omega) hg.1]
    split
    · rw [List.length_append]; simp only [List.length_singleton]; omega
    · omega
theorem mem_hearF {l : List H} {p : List Sl} (h : heardOk l = true) (x : Int) : ∀ n, n ≤ l.length → (x ∈ hearF l p n ↔ ∃ i, i < n ∧ ∃ hi : i < l.length, ∃ hp : l[i].f0.toNat < p.length, (p[l[i].f0.toNat]).f0 = x) := by
  intro n
  induction n with
  | zero => intro _; simp [hearF]
  | succ n ih =>
    intro hn
    have hg := heard_get h n (by omega)
    rw [hearF_succ n (by omega) hg.1]
    split
    · rename_i hc
      rw [List.mem_append, ih (by omega), List.mem_singleton]
      constructor
      · rintro (⟨i, h1, h2, h3, h4⟩ | e)
        · exact ⟨i, by omega, h2, h3, h4⟩
        · exact ⟨n, by omega, by omega, by omega, e.symm⟩
      · rintro ⟨i, h1, h2, h3, h4⟩
        rcases Nat.lt_or_ge i n with c | c
        · exact .inl ⟨i, c, h2, h3, h4⟩
        · obtain rfl : i = n := by omega
          exact .inr h4.symm
    · rename_i hc
      rw [ih (by omega)]
      constructor
      · rintro ⟨i, h1, h2, h3, h4⟩; exact ⟨i, by omega, h2, h3, h4⟩
      · rintro ⟨i, h1, h2, h3, h4⟩
        rcases Nat.lt_or_ge i n with c | c
        · exact ⟨i, c, h2, h3, h4⟩
        · obtain rfl : i = n := by omega
          omega
def heardOwners (l : List H) (st gap : Int) (p : List Sl) : List Int := if (heardOk l && planOk st gap p) = true then below8 (fun n => decide (n ∈ hearF l p l.length)) else []
theorem heardOwners_len (l : List H) (st gap : Int) (p : List Sl) : (heardOwners l st gap p).length ≤ 8 := by
  unfold heardOwners; split
  · exact below8_len _
  · simp
theorem iHeardOwners (l : List H) (hl : l.length ≤ 1048576) (st gap : Int) (p : List Sl) (hp : p.length ≤ 1048576) (k : Nat) (hk : 1050010 ≤ k) : impl_HeardOwners.f k l st gap p = some (heardOwners l st gap p) := by
  obtain ⟨k, rfl⟩ : ∃ j, k = j + 1 := ⟨k - 1, by omega⟩
  unfold impl_HeardOwners.f heardOwners
  rw [iHeardOk l hl _ (by omega), Option.bind_some]
  cases h1 : heardOk l with
  | false => rw [if_neg (by decide), Bool.false_and, if_neg (by decide)]; simp only [impl_HeardOwners.j0, if_true]
  | true =>
    rw [if_pos rfl, iPlanOk st gap p hp _ (by omega), Option.bind_some, Bool.true_and]
    cases h2 : planOk st gap p with
    | false => rw [if_neg (by decide)]; simp only [impl_HeardOwners.j0, Bool.not_false, if_true]
    | true =>
      rw [if_pos rfl]
      have h2' := h2
      rw [planOk_iff] at h2'
      simp only [impl_HeardOwners.j0, Bool.not_true]
      rw [if_neg (by decide), iSlots l (by omega) k (by omega), Option.bind_some, slots_len]
      have hb : ∀ x ∈ hearF l p l.length, 0 ≤ x ∧ x < 8 := fun x hx => by
        obtain ⟨i, _, hi, hpi, e⟩ := (mem_hearF h1 x l.length (Nat.le_refl _)).1 hx
        have := slotsOk_get h2'.2.2.2 _ hpi
        omega
      refine track_loop0 (n := l.length) (c := 1000) (σ := List Int) (F := hearF l p) (L := fun k s i => impl_HeardOwners.l0 k s (slots l) (l.length : Int) i st gap p) (fun k i hi hk => ?_) (fun k hk => ?_) k (by omega)
      · simp only [impl_HeardOwners.l0]
        have hg := heard_get h1 i hi
        have hlen := hearF_len h1 (p := p) (by omega) i (by omega)
        have hrd : rd (slots l) (i : Int) = l[i].f0 := by unfold rd slots; simp [List.getD, hi]
        rw [if_pos (by omega), if_pos (by omega), if_pos (by rw [slots_len]; omega), hrd, wrap_succ hi (by omega), hearF_succ i hi hg.1]
        by_cases hc : l[i].f0 < (p.length : Int)
        · rw [if_pos hc, if_pos hg.1, if_pos (by omega), dif_pos hc]
          obtain ⟨m, hm⟩ := Int.eq_ofNat_of_zero_le hg.1
          have hmp : m < p.length := by omega
          simp only [hm, Int.toNat_natCast]
          rw [rdSl p m hmp]
        · rw [if_neg hc, dif_neg hc]
      · simp only [impl_HeardOwners.l0]
        rw [if_neg (by omega)]
        exact sort_compact _ (hearF_len h1 (by omega) l.length (Nat.le_refl _)).1 hb k hk
def hasAt (l : List H) (p : List Sl) (n : Int) (i : Nat) : Bool := match p[i]? with
  | some y => decide (y.f0 = n) && hasI (slots l) (i : Int)
  | none => false
theorem sHearIn {l : List H} {p : List Sl} (hl : l.length ≤ 16) (hp : p.length ≤ 12) (st gap n : Int) (out : List Int) (ho : out.length ≤ 8) (r : Option (List Int)) (c : Nat) : ∀ d i k (fd : Bool), i + d = p.length → d + c + 30 < k → (∀ k', c ≤ k' → spec_HeardOwners.l0 k' (if (fd || (List.range' i d).any (hasAt l p n)) = true then out ++ [n] else out) (slots l) (wrap64 (n + 1)) st gap p = r) →
    spec_HeardOwners.l1 k out (slots l) n fd (i : Int) st gap p = r := by
  intro d
  induction d with
  | zero =>
    intro i k fd hi hk h
    obtain ⟨k, rfl⟩ : ∃ j, k = j + 1 := ⟨k - 1, by omega⟩
    simp only [spec_HeardOwners.l1]
    have h1 := h k (by omega)
    rw [List.range'_zero, List.any_nil, Bool.or_false] at h1
    rw [if_neg (by omega)]
    cases fd with
    | false => rw [if_neg (by decide)]; rw [if_neg (by decide)] at h1; exact h1
    | true => rw [if_pos rfl, if_pos (by omega)]; rw [if_pos rfl] at h1; exact h1
  | succ d ih =>
    intro i k fd hi hk h
    obtain ⟨k, rfl⟩ : ∃ j, k = j + 1 := ⟨k - 1, by omega⟩
    have hil : i < p.length := by omega
    simp only [spec_HeardOwners.l1]
    rw [if_pos (by omega), wrap_succ hil (by omega)]
    rw [List.range'_succ, List.any_cons] at h
    cases fd with
    | true =>
      rw [if_pos rfl]
      exact ih (i + 1) k true (by omega) (by omega) (fun k' hk' => by have := h k' hk'; simpa using this)
    | false =>
      rw [if_neg (by decide), if_pos (by omega), rdSl p i hil]
      have hh : hasAt l p n i = (decide (p[i].f0 = n) && hasI (slots l) (i : Int)) := by unfold hasAt; rw [List.getElem?_eq_getElem hil]
      rw [hh] at h
      by_cases hn : p[i].f0 = n
      · rw [if_pos hn, sHas _ (by rw [slots_len]; omega) _ k (by rw [slots_len]; omega), Option.bind_some]
        rw [decide_eq_true hn, Bool.true_and, Bool.false_or] at h
        exact ih (i + 1) k _ (by omega) (by omega) h
      · rw [if_neg hn]
        rw [decide_eq_false hn, Bool.false_and, Bool.false_or] at h
        exact ih (i + 1) k _ (by omega) (by omega) h
theorem hasI_iff (xs : List Int) (v : Int) : hasI xs v = true ↔ v ∈ xs := by
  unfold hasI
  rcases first_of (Q := fun i => xs[i]? == some v) xs.length with ⟨j, h1, h2, h3⟩ | h1
  · rw [found_some h1 h2 h3]
    simp only [beq_iff_eq] at h2
    exact ⟨fun _ => List.mem_of_getElem? h2, fun _ => rfl⟩
  · rw [found_none h1]
    constructor
    · intro h; cases h
    · intro h
      obtain ⟨i, hi, e⟩ := List.getElem_of_mem h
      have := h1 i hi
      rw [List.getElem?_eq_getElem hi, e] at this
      simp at this
theorem any_has {l : List H} {p : List Sl} (h : heardOk l = true) (n : Int) : (List.range' 0 p.length).any (hasAt l p n) = decide (n ∈ hearF l p l.length) := by
  rw [Bool.eq_iff_iff, List.any_eq_true, decide_eq_true_iff, mem_hearF h n l.length (Nat.le_refl _)]
  constructor
  · rintro ⟨i, hi, hq⟩
    have hil : i < p.length := by have := List.mem_range'_1.1 hi; omega
    unfold hasAt at hq
    rw [List.getElem?_eq_getElem hil] at hq
    simp only [Bool.and_eq_true, decide_eq_true_eq] at hq
    obtain ⟨q1, q2⟩ := hq
    rw [hasI_iff] at q2
    unfold slots at q2
    obtain ⟨y, hy, e⟩ := List.mem_map.1 q2
    obtain ⟨j, hj, rfl⟩ := List.getElem_of_mem hy
    have : l[j].f0.toNat = i := by omega
    exact ⟨j, hj, hj, by omega, by simp only [this]; exact q1⟩
  · rintro ⟨j, _, hj, hp, e⟩
    refine ⟨l[j].f0.toNat, List.mem_range'_1.2 (by omega), ?_⟩
    unfold hasAt
    rw [List.getElem?_eq_getElem hp]
    simp only [Bool.and_eq_true, decide_eq_true_eq]
    refine ⟨e, ?_⟩
    rw [hasI_iff]
    have hg := heard_get h j hj
    unfold slots
    exact List.mem_map.2 ⟨l[j], List.getElem_mem hj, by omega⟩
theorem sHearOut {l : List H} {st gap : Int} {p : List Sl} (h1 : heardOk l = true) (h : planOk st gap p = true) : ∀ d n k (out : List Int), n + d = 8 → out.length ≤ n → 60 * d + 60 < k →
    spec_HeardOwners.l0 k out (slots l) (n : Int) st gap p = some (out ++ ((List.range' n d).map fun (i : Nat) => (i : Int)).filter fun x => decide (x ∈ hearF l p l.length)) := by
  have hp := h
  rw [planOk_iff] at hp
  have hl := heard_len h1
  intro d
  induction d with
  | zero =>
    intro n k out hn ho hk
    obtain ⟨k, rfl⟩ : ∃ j, k = j + 1 := ⟨k - 1, by omega⟩
    simp only [spec_HeardOwners.l0]
    rw [if_neg (by omega)]
    simp
  | succ d ih =>
    intro n k out hn ho hk
    obtain ⟨k, rfl⟩ : ∃ j, k = j + 1 := ⟨k - 1, by omega⟩
    simp only [spec_HeardOwners.l0]
    rw [if_pos (by omega)]
    refine sHearIn (by omega) (by omega) st gap (n : Int) out (by omega) _ (60 * d + 61) p.length 0 k false (by omega) (by omega) (fun k' hk' => ?_)
    have hw : wrap64 ((n : Int) + 1) = ((n + 1 : Nat) : Int) := by rw [wrap_id (by omega) (by omega)]; omega
    rw [hw, Bool.false_or, any_has h1, List.range'_succ, List.map_cons, List.filter_cons]
    cases hc : decide ((n : Int) ∈ hearF l p l.length) with
    | true =>
      rw [if_pos rfl, if_pos rfl, ih (n + 1) k' _ (by omega) (by simp; omega) (by omega)]
      simp
    | false =>
      rw [if_neg (by decide), if_neg (by decide), ih (n + 1) k' _ (by omega) (by omega) (by omega)]
theorem sHeardOwners (l : List H) (hl : l.length ≤ 1048576) (st gap : Int) (p : List Sl) (hp : p.length ≤ 1048576) (k : Nat) (hk : 1050010 ≤ k) : spec_HeardOwners.f k l st gap p = some (heardOwners l st gap p) := by
  obtain ⟨k, rfl⟩ : ∃ j, k = j + 1 := ⟨k - 1, by omega⟩
  unfold spec_HeardOwners.f heardOwners
  rw [Option.bind_some, sHeardOk l hl _ (by omega), Option.bind_some]
  cases h1 : heardOk l with
  | false => rw [if_neg (by decide), Bool.false_and, if_neg (by decide)]; simp only [spec_HeardOwners.j0, if_true]
  | true =>
    rw [if_pos rfl, sPlanOk st gap p hp _ (by omega), Option.bind_some, Bool.true_and]
    cases h2 : planOk st gap p with
    | false => rw [if_neg (by decide)]; simp only [spec_HeardOwners.j0, Bool.not_false, if_true]
    | true =>
      rw [if_pos rfl]
      simp only [spec_HeardOwners.j0, Bool.not_true]
      rw [if_neg (by decide), sSlots l (by omega) k (by omega), Option.bind_some]
      have := sHearOut h1 h2 8 0 k [] (by omega) (by simp) (by omega)
      rw [List.nil_append] at this
      unfold below8
      rw [List.range_eq_range']
      exact this
theorem markSlotS (l : List Sl) (hl : l.length ≤ 2000000) (a : Int) (ha : 0 ≤ a ∧ a ≤ 1000000000) (k : Nat) (hk : l.length < k) : laws_markSlotS.f k l a = some (a + 2 * l.length, (List.range l.length).map fun (i : Nat) => (⟨a + 2 * i, a + 2 * i + 1⟩ : Sl)) := by
  unfold laws_markSlotS.f
  have := mark_loop0 (l := l) (f := fun i => (⟨a + 2 * i, a + 2 * i + 1⟩ : Sl)) (w := fun i => a + 2 * i) (c := 0) (L := fun k acc w i => laws_markSlotS.l0 k acc w i) (fin := fun acc => (a + 2 * l.length, acc)) (fun k i acc hi hacc _ => ?_) (fun k acc hacc => ?_) k (by omega)
  · simp only [Int.natCast_zero, Int.mul_zero, Int.add_zero] at this; exact this
  · simp only [laws_markSlotS.l0, Option.bind_some]
    rw [if_pos (by omega), if_pos (by omega), wrap_succ hi (by omega), Int.toNat_natCast, rdSl (acc.set i _) i (by simp; omega), List.getElem_set_self, List.set_set, wrap_id (x := a + 2 * (i : Int) + 1) (by omega) (by omega), wrap_id (x := a + 2 * (i : Int) + 1 + 1) (by omega) (by omega)]
    congr 1; omega
  · simp only [laws_markSlotS.l0]
    rw [if_neg (by omega)]
theorem markPlan (x y : Int) (l : List Sl) (hl : l.length ≤ 2000000) (a : Int) (ha : 0 ≤ a ∧ a ≤ 1000000000) (k : Nat) (hk : l.length < k) : laws_markPlan.f k x y l a = some (a + 2 * l.length, (List.range l.length).map fun (i : Nat) => (⟨a + 2 * i, a + 2 * i + 1⟩ : Sl)) := by
  unfold laws_markPlan.f; rw [markSlotS l hl a ha k hk]; rfl
theorem markHeardS (l : List H) (hl : l.length ≤ 2000000) (a : Int) (ha : 0 ≤ a ∧ a ≤ 1000000000) (k : Nat) (hk : l.length < k) : laws_markHeardS.f k l a = some (a + 2 * l.length, (List.range l.length).map fun (i : Nat) => (⟨a + 2 * i, a + 2 * i + 1⟩ : H)) := by
  unfold laws_markHeardS.f
  have := mark_loop0 (l := l) (f := fun i => (⟨a + 2 * i, a + 2 * i + 1⟩ : H)) (w := fun i => a + 2 * i) (c := 0) (L := fun k acc w i => laws_markHeardS.l0 k acc w i) (fin := fun acc => (a + 2 * l.length, acc)) (fun k i acc hi hacc _ => ?_) (fun k acc hacc => ?_) k (by omega)
  · simp only [Int.natCast_zero, Int.mul_zero, Int.add_zero] at this; exact this
  · simp only [laws_markHeardS.l0, Option.bind_some]
    rw [if_pos (by omega), if_pos (by omega), wrap_succ hi (by omega), Int.toNat_natCast, rdH (acc.set i _) i (by simp; omega), List.getElem_set_self, List.set_set, wrap_id (x := a + 2 * (i : Int) + 1) (by omega) (by omega), wrap_id (x := a + 2 * (i : Int) + 1 + 1) (by omega) (by omega)]
    congr 1; omega
  · simp only [laws_markHeardS.l0]
    rw [if_neg (by omega)]
end Go.Proofs.Ytpjahhljpoeaeaa.C
namespace Go.Proofs.Ytpjahhljpoeaeaa.V
open Go.RowKit Go.Proofs.Ytpjahhljpoeaeaa.P Go.Proofs.Ytpjahhljpoeaeaa.C Go.Proofs.Ytpjahhljpoeaeaa.G
theorem FnExactHeardOwners : ∀ (l0 : List (S83)) (a1_0 : Int) (a1_1 : Int) (l1_2 : List (S113)), (l0.length ≤ 9223372036854775807 ∧ ∀ y ∈ l0, ((Lit.int .i64 y.f0).wf = true ∧ (Lit.int .i64 y.f1).wf = true)) → (Lit.int .i64 a1_0).wf = true → (Lit.int .i64 a1_1).wf = true → (l1_2.length ≤ 9223372036854775807 ∧ ∀ y ∈ l1_2, ((Lit.int .i64 y.f0).wf = true ∧ (Lit.int .i64 y.f1).wf = true)) → ∃ k, laws_FnExactHeardOwners.f k l0 a1_0 a1_1 l1_2 = some true := by
  intro l st gap p ⟨hl, _⟩ _ _ ⟨hl2, _⟩
  refine ⟨2300000, ?_⟩
  unfold laws_FnExactHeardOwners.f
  rcases szHeardS l hl 1048576 (by omega) with h | ⟨h, hs⟩
  · rw [h]; simp
  rw [h, Option.bind_some, if_neg (by omega)]
  rcases szPlan st gap p hl2 (1048576 - l.length) (by omega) with h2 | ⟨h2, hs2⟩
  · rw [h2]; simp
  rw [h2, Option.bind_some, if_neg (by omega)]
  have e1 : (l.map toH).length = l.length := by simp
  have e2 : (p.map toSl).length = p.length := by simp
  have hu := heardOwners_len (l.map toH) st gap (p.map toSl)
  have hj : ∀ k, 2200000 ≤ k → laws_FnExactHeardOwners.j0 k l (heardOwners (l.map toH) st gap (p.map toSl)) (heardOwners (l.map toH) st gap (p.map toSl)) false st gap p = some true := by
    intro k hk
    obtain ⟨k, rfl⟩ : ∃ j, k = j + 1 := ⟨k - 1, by omega⟩
    simp only [laws_FnExactHeardOwners.j0]
    rw [if_neg (by decide), markIntS _ (by omega) 1 (by omega) k (by omega)]
    simp only [Option.bind_some]
    rw [heldIntS _ (by omega) 1 (by omega) k (by omega)]
    simp only [Option.bind_some]
    rw [if_neg (by omega), if_pos trivial, toHeardS l (by omega) k (by omega), toPlan st gap p (by omega) k (by omega)]
    simp only [Option.bind_some]
    rw [iHeardOwners _ (by omega) _ _ _ (by omega) k (by omega)]
    simp only [Option.bind_some]
    rw [eqIntS _ (by omega) k (by omega)]
    simp only [Option.bind_some]
    rw [if_pos (by trivial), if_neg (by omega), if_pos (by trivial)]
  rw [toHeardS l (by omega) _ (by omega), toPlan st gap p (by omega) _ (by omega)]
  simp only [Option.bind_some]
  rw [sHeardOwners _ (by omega) _ _ _ (by omega) _ (by omega), iHeardOwners _ (by omega) _ _ _ (by omega) _ (by omega)]
  simp only [Option.bind_some]
  rw [eqIntS _ (by omega) _ (by omega), eqHeardS _ (by omega) _ (by omega), eqPlan _ _ _ (by omega) _ (by omega)]
  simp only [Option.bind_some, if_true]
  rw [markHeardS _ (by omega) 1 (by omega) _ (by omega)]
  simp only [Option.bind_some]
  rw [markPlan _ _ _ (by omega) _ (by omega) _ (by omega)]
  simp only [Option.bind_some, Bool.not_true]
  rw [if_neg (by omega)]
  exact hj _ (by omega)
end Go.Proofs.Ytpjahhljpoeaeaa.V
namespace Go.Proofs.Ytpjahhljpoeaeaa.Args
open Go.ChangeShapes Go.WideShapes Go.Deep Go.Proofs.YtpjahhljpoeaeaaW.PrintWords
theorem trod_field {H : Type} {enc : TypeId × Value → H} {P : Program} {w : World} {base : Nat} {spare : Nat → Bool} {held : Bool} {fuel : Nat} {t : TypeId} {cs : List Value} {x : DataW H × List MemPlace} {fs : Array Field}
    (ht : P.underlying t = some (.struct fs)) (h : DataW.trod enc P w base spare held fuel t cs = some x) :
    cs.length = P.cellsOf t ∧ ∀ (i : Nat) (f : Field), fs[i]? = some f → ∃ n y, DataW.trod enc P w base spare held n f.type ((cs.drop f.offset).take (P.cellsOf f.type)) = some y := by
  obtain ⟨xs, n, rfl, _, hl, hx, hf⟩ := DataW.trod_struct ht h
  refine ⟨hl, fun i f hi => ⟨n, ?_⟩⟩
  have hi2 : i < fs.size := by
    rcases Nat.lt_or_ge i fs.size with h' | h'
    · exact h'
    · rw [Array.getElem?_eq_none h'] at hi; cases hi
  obtain ⟨y, hy⟩ : ∃ y, xs[i]? = some y := ⟨_, List.getElem?_eq_getElem (by omega)⟩
  exact ⟨y, by rw [hf i f hi, hy]⟩
theorem trod_at {H : Type} {enc : TypeId × Value → H} {P : Program} {w : World} {base : Nat} {spare : Nat → Bool} {held : Bool} {fuel : Nat} {t : TypeId} {cs : List Value} {x : DataW H × List MemPlace} {fs : Array Field}
    (ht : P.underlying t = some (.struct fs)) (h : DataW.trod enc P w base spare held fuel t cs = some x) (i : Nat) (ft : TypeId) (off sz : Nat) (cs' : List Value)
    (hf : ∃ f, fs[i]? = some f ∧ f.type = ft ∧ f.offset = off) (hw : P.cellsOf ft = sz) (hc : (cs.drop off).take sz = cs') : ∃ n y, DataW.trod enc P w base spare held n ft cs' = some y := by
  obtain ⟨f, h1, rfl, rfl⟩ := hf
  subst hw hc
  exact (trod_field ht h).2 i f h1
def Opens (P : Program) (t : TypeId) {α : Type} (d : Kd α) (B : α → Prop) : Prop :=
  ∀ {H : Type} {enc : TypeId × Value → H} {w : World} {base : Nat} {spare : Nat → Bool} {held : Bool} {fuel : Nat} {cs : List Value} {x : DataW H × List MemPlace},
    DataW.trod enc P w base spare held fuel t cs = some x → ∃ a, d.K w a cs ∧ B a
theorem open_row {H : Type} {enc : TypeId × Value → H} {P : Program} {w : World} {base : Nat} {spare : Nat → Bool} {held : Bool} {fuel : Nat} {t e : TypeId} {c : Value} {x : DataW H × List MemPlace} {α : Type} {d : Kd α} {B : α → Prop} (z : α)
    (ht : P.underlying t = some (.slice e)) (hsz : P.cellsOf e = d.sz) (he : Opens P e d B) (h : DataW.trod enc P w base spare held fuel t [c] = some x) :
    ∃ A cap l, c = .slice A l.length cap ∧ Kd.C d w A l.length l ∧ l.length ≤ cap ∧ l.length ≤ 9223372036854775807 ∧ ∀ y ∈ l, B y := by
  haveI : Inhabited α := ⟨z⟩
  rcases open_slice ht h with ⟨hc, _⟩ | ⟨a, len, cap, m, n, D, Pl, hc, _, hl, hm, hmm, _, hx⟩
  · obtain rfl := List.head_eq_of_cons_eq hc
    exact ⟨none, 0, [], rfl, Kd.C_nil _ _, Nat.le_refl _, by simp, fun y hy => by cases hy⟩
  · obtain rfl := List.head_eq_of_cons_eq hc
    have hlm : len ≤ m := by rw [hmm]; split <;> omega
    obtain ⟨f, hf⟩ := choose_lt (α := α) (n := len) (p := fun i y => (∃ c', c'.length = d.sz ∧ d.K w y c' ∧ ∀ k u, c'[k]? = some u → w.cell? (a.add (i * d.sz + k)) = some u) ∧ B y) (fun i hi => by
      obtain ⟨cs', h1, h2⟩ := hx i (by omega)
      obtain ⟨y, hk, hb⟩ := he h2
      refine ⟨y, ⟨cs', d.K_len hk, hk, fun k u hu => ?_⟩, hb⟩
      obtain ⟨_, hlen, hcell⟩ := World.cells?_some h1
      have hk2 : k < cs'.length := (List.getElem?_eq_some_iff.1 hu).1
      have := hcell k (by omega)
      rw [hsz, Addr.add_add] at this
      rw [this, hu])
    have hmax : len ≤ 9223372036854775807 := by unfold maxLen at hm; omega
    refine ⟨some a, cap, (List.range len).map f, by simp, ⟨by simp, by simpa using hmax, fun _ => ⟨a, rfl, fun j p hj => ?_⟩⟩, by simpa using hl, by simpa using hmax, fun y hy => ?_⟩
    · have hj2 : j < len := by simpa using (List.getElem?_eq_some_iff.1 hj).1
      rw [List.getElem?_map, List.getElem?_range hj2] at hj
      obtain rfl := Option.some.inj hj
      exact (hf j hj2).1
    · obtain ⟨j, hj, rfl⟩ := List.mem_map.1 hy
      exact (hf j (List.mem_range.1 hj)).2
end Go.Proofs.Ytpjahhljpoeaeaa.Args
