/- Texts of the seat's proofs, part 11: functions of the program told as plain functions, with their contracts, and what is shown of them. No condition. -/
import Derived.Test.YtllpmpfchidhoaaUKFA
import Derived.Test.YtllpmpfchidhoaaKFA10
import Derived.Test.YtllpmpfchidhoaaKFA5
import Derived.Deep.Slices
import Derived.ProofKit
import Derived.OpenShut
set_option linter.unusedVariables false
set_option linter.unusedSimpArgs false
namespace Go.Proofs.Ytllpmpfchidhoaa.V
open Go.RowKit Go.Proofs.Ytllpmpfchidhoaa.P Go.Proofs.Ytllpmpfchidhoaa.C Go.Proofs.Ytllpmpfchidhoaa.G
theorem apartJ {st gap : Int} {l : List Sl} (h : planOk st gap l = true) (i : Nat) (hi : i < l.length) (q : Int) (ho : (occ st gap l i q).2.2 = true) (k : Nat) (hk : 1060000 ≤ k) :
    laws_FnApart.j0 k (i : Int) q false st gap l (st + q * round gap l + upto gap l i) (st + q * round gap l + upto gap l i + l[i].f1) = some true := by
  obtain ⟨k, rfl⟩ : ∃ j, k = j + 1 := ⟨k - 1, by omega⟩
  obtain ⟨hq, e, hb⟩ := occ_true hi ho
  have hr := round_bd h
  have hqb := q_bd hr.1 hq
  have hu := upto_bd h i (by omega)
  have hp := h
  rw [planOk_iff] at hp
  have hsl := slotsOk_get hp.2.2.2 i hi
  simp only [laws_FnApart.j0]
  rw [if_neg (by decide)]
  have a1 := slotAt_time h i hi q (st + q * round gap l + upto gap l i) ho (by rw [e]; simp) (by rw [e]; simp only; omega)
  have a2 := slotAt_time h i hi q (st + q * round gap l + upto gap l i + l[i].f1 - 1) ho (by rw [e]; simp only; omega) (by rw [e]; simp only; omega)
  have a3 : ¬ ((slotAt st gap l (st + q * round gap l + upto gap l i + l[i].f1)).2.2 = true ∧ (slotAt st gap l (st + q * round gap l + upto gap l i + l[i].f1)).1 = (i : Int) ∧ (slotAt st gap l (st + q * round gap l + upto gap l i + l[i].f1)).2.1 = q) := by
    rintro ⟨b1, b2, b3⟩
    obtain ⟨j, hj, e1, e2, e3, e4, e5, e6, e7⟩ := slotAt_in b1
    rw [e1] at b2
    obtain rfl : j = i := by omega
    rw [b3] at e5
    rw [← e5] at e7
    rw [timeOk_iff] at e3
    have := (occ_in h e3 e4 j hj (by rw [← e5]; exact e7)).2 e6
    rw [← e5, e] at this
    simp only at this
    omega
  rw [wrap_id (x := st + q * round gap l + upto gap l i + l[i].f1 - 1) (by omega) (by omega), iSlotAt st gap l (by omega) _ _ (by omega), a1, Option.bind_some, iSlotAt st gap l (by omega) _ _ (by omega), a2, Option.bind_some, iSlotAt st gap l (by omega) _ _ (by omega), Option.bind_some, iSlotFrom st gap l (by omega) _ _ (by omega), Option.bind_some]
  have hf : slotFrom st gap l (i : Int) = (upto gap l i, true) := by
    unfold slotFrom
    rw [if_pos (by rw [isSlot_iff]; exact ⟨h, by omega, by omega⟩), show ((i : Int)).toNat = i by omega]
  have hro : roundOf st gap l = round gap l := by unfold roundOf; rw [if_pos h]
  rw [hf, iRoundOf st gap l (by omega) _ (by omega), hro]
  simp only [Option.bind_some]
  have hfin : (upto gap l i == wrap64 (wrap64 (st + q * round gap l + upto gap l i - st) - wrap64 (q * round gap l))) = true := by
    rw [wrap_id (x := st + q * round gap l + upto gap l i - st) (by omega) (by omega), wrap_id (x := q * round gap l) (by omega) (by omega), wrap_id (by omega) (by omega), beq_iff_eq]
    omega
  rw [hfin]
  generalize slotAt st gap l (st + q * round gap l + upto gap l i + l[i].f1) = sa at a3
  obtain ⟨x, y, b⟩ := sa
  simp only at a3
  cases b with
  | false => simp
  | true =>
    by_cases hx : x = (i : Int)
    · by_cases hy : y = q
      · exact absurd ⟨rfl, hx, hy⟩ a3
      · simp [hx, hy]
    · simp [hx]
theorem FnApart : ∀ (l0 : List Int), (l0.length ≤ 9223372036854775807 ∧ ∀ y ∈ l0, (Lit.int .u8 y).wf = true) → ∃ k, laws_FnApart.f k l0 = some true := by
  intro s ⟨hs, hb⟩
  refine ⟨2000000, ?_⟩
  unfold laws_FnApart.f
  rw [dBig, Option.bind_some]
  by_cases hbig : (s.length : Int) > 1048576
  · rw [decide_eq_true hbig, if_pos rfl]
  rw [decide_eq_false hbig, if_neg (by decide)]
  obtain ⟨st, gap, l, i, q, e, hl⟩ := dOccurrence s (by omega) 2000000 (by omega)
  rw [e, Option.bind_some]
  simp only
  rw [iOccurrence st gap l (by omega) i q _ (by omega), Option.bind_some, sOccurrence st gap l (by omega) i q _ (by omega), Option.bind_some, bne_self_eq_false, if_neg (by decide)]
  cases ho : (occurrence st gap l i q).2.2 with
  | false =>
    rw [if_neg (by decide), iRoundOf 0 2 _ (by simp) _ (by omega), Option.bind_some]
    have : roundOf 0 2 [(⟨0, 7⟩ : Sl)] = 9 := by decide
    rw [this]; rfl
  | true =>
    rw [if_pos rfl]
    obtain ⟨h, n, hn, rfl, hq, eo, hb2, ho2⟩ := occurrence_true ho
    have hp := h
    rw [planOk_iff] at hp
    have hr := round_bd h
    have hqb := q_bd hr.1 hq
    obtain ⟨v1, e1, v1a, v1b⟩ := dAt s (by omega) hb 1 (by omega)
    obtain ⟨v2, e2, v2a, v2b⟩ := dAt s (by omega) hb 2 (by omega)
    have p1 := pick_in v1a (show (0 : Int) < (l.length : Int) by omega)
    have p2 := pick_in v2a (show (0 : Int) < 3 by omega)
    obtain ⟨j, hj⟩ := Int.eq_ofNat_of_zero_le p1.1
    rw [e1, Option.bind_some, if_neg (by omega), e2, Option.bind_some, hj, wrap_id (x := q + Int.tmod v2 3) (by omega) (by omega), wrap_id (x := q + Int.tmod v2 3 - 1) (by omega) (by omega)]
    generalize q + Int.tmod v2 3 - 1 = m
    have hjl : j < l.length := by omega
    rw [iOccurrence st gap l (by omega) _ _ _ (by omega), Option.bind_some, eo]
    simp only
    have hJ := apartJ h n hn q ho2 2000000 (by omega)
    rw [occurrence_nat h j hjl]
    have eo' := (occ_true hn ho2).2.1
    cases hf : (occ st gap l j m).2.2 with
    | false => rw [if_neg (by decide)]; exact hJ
    | true =>
      rw [if_pos rfl]
      have hap : ¬ ((n : Int) = (j : Int) ∧ q = m) → st + q * round gap l + upto gap l n < (occ st gap l j m).2.1 → decide ((occ st gap l j m).1 < st + q * round gap l + upto gap l n + l[n].f1) = false := by
        intro h1 h2
        rw [decide_eq_false_iff_not]
        intro h3
        have := apart h n j hn hjl q m ho2 hf (by rw [eo']; exact h2) (by rw [eo']; exact h3)
        exact h1 ⟨by omega, this.2⟩
      by_cases hnj : (n : Int) = (j : Int)
      · rw [if_pos hnj]
        by_cases hqm : q = m
        · rw [if_pos hqm]; exact hJ
        · rw [if_neg hqm]
          by_cases hc : st + q * round gap l + upto gap l n < (occ st gap l j m).2.1
          · rw [if_pos hc, hap (fun h => hqm h.2) hc]; exact hJ
          · rw [if_neg hc]; exact hJ
      · rw [if_neg hnj]
        by_cases hc : st + q * round gap l + upto gap l n < (occ st gap l j m).2.1
        · rw [if_pos hc, hap (fun h => hnj h.1) hc]; exact hJ
        · rw [if_neg hc]; exact hJ
end Go.Proofs.Ytllpmpfchidhoaa.V
namespace Go.Proofs.Ytllpmpfchidhoaa.Args
open Go.ChangeShapes Go.WideShapes Go.Deep Go.Proofs.YtllpmpfchidhoaaW.PrintWords
def Opens (P : Program) (t : TypeId) {α : Type} (d : Kd α) (B : α → Prop) : Prop :=
  ∀ {H : Type} {enc : TypeId × Value → H} {w : World} {base : Nat} {spare : Nat → Bool} {held : Bool} {fuel : Nat} {cs : List Value} {x : DataW H × List MemPlace},
    DataW.trod enc P w base spare held fuel t cs = some x → ∃ a, d.K w a cs ∧ B a
theorem open_row {H : Type} {enc : TypeId × Value → H} {P : Program} {w : World} {base : Nat} {spare : Nat → Bool} {held : Bool} {fuel : Nat} {t e : TypeId} {c : Value} {x : DataW H × List MemPlace} {α : Type} {d : Kd α} {B : α → Prop} (z : α)
    (ht : P.underlying t = some (.slice e)) (hsz : P.cellsOf e = d.sz) (he : Opens P e d B) (h : DataW.trod enc P w base spare held fuel t [c] = some x) :
    ∃ A cap l, c = .slice A l.length cap ∧ Kd.C d w A l.length l ∧ l.length ≤ cap ∧ l.length ≤ 9223372036854775807 ∧ ∀ y ∈ l, B y := by
  haveI : Inhabited α := ⟨z⟩
  rcases open_slice ht h with ⟨hc, _⟩ | ⟨a, len, cap, m, n, D, Pl, hc, _, hl, hm, hmm, _, hx⟩
  · obtain rfl := List.head_eq_of_cons_eq hc
    exact ⟨none, 0, [], rfl, Kd.C_nil _ _, Nat.le_refl _, by simp, fun y hy => by cases hy⟩
  · obtain rfl := List.head_eq_of_cons_eq hc
    have hlm : len ≤ m := by rw [hmm]; split <;> omega
    obtain ⟨f, hf⟩ := choose_lt (α := α) (n := len) (p := fun i y => (∃ c', c'.length = d.sz ∧ d.K w y c' ∧ ∀ k u, c'[k]? = some u → w.cell? (a.add (i * d.sz + k)) = some u) ∧ B y) (fun i hi => by
      obtain ⟨cs', h1, h2⟩ := hx i (by omega)
      obtain ⟨y, hk, hb⟩ := he h2
      refine ⟨y, ⟨cs', d.K_len hk, hk, fun k u hu => ?_⟩, hb⟩
      obtain ⟨_, hlen, hcell⟩ := World.cells?_some h1
      have hk2 : k < cs'.length := (List.getElem?_eq_some_iff.1 hu).1
      have := hcell k (by omega)
      rw [hsz, Addr.add_add] at this
      rw [this, hu])
    have hmax : len ≤ 9223372036854775807 := by unfold maxLen at hm; omega
    refine ⟨some a, cap, (List.range len).map f, by simp, ⟨by simp, by simpa using hmax, fun _ => ⟨a, rfl, fun j p hj => ?_⟩⟩, by simpa using hl, by simpa using hmax, fun y hy => ?_⟩
    · have hj2 : j < len := by simpa using (List.getElem?_eq_some_iff.1 hj).1
      rw [List.getElem?_map, List.getElem?_range hj2] at hj
      obtain rfl := Option.some.inj hj
      exact (hf j hj2).1
    · obtain ⟨j, hj, rfl⟩ := List.mem_map.1 hy
      exact (hf j (List.mem_range.1 hj)).2
theorem opens_int {P : Program} {t : TypeId} {k : IntKind} (ht : P.underlying t = some (.int k)) : Opens P t (Kd.int k) (fun x => (Lit.int k x).wf = true) := by
  intro H enc w base spare held fuel cs x h
  obtain ⟨n, rfl, _, hw⟩ := DataW.trod_int ht h
  exact ⟨n, rfl, hw⟩
end Go.Proofs.Ytllpmpfchidhoaa.Args
