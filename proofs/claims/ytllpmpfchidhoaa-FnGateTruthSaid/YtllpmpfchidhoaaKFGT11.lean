/- Texts of the seat's proofs, part 11: functions of the program told as plain functions, with their contracts, and what is shown of them. No condition. -/
import Derived.Test.YtllpmpfchidhoaaUKFGT
import Derived.Test.YtllpmpfchidhoaaKFGT1
import Derived.Test.YtllpmpfchidhoaaKFGT5
import Derived.Test.YtllpmpfchidhoaaKFGT6
import Derived.Test.YtllpmpfchidhoaaKFGT10
import Derived.Test.YtllpmpfchidhoaaKFGT7
import Derived.Test.YtllpmpfchidhoaaKFGT8
import Derived.Test.YtllpmpfchidhoaaKFGT9
import Derived.Deep.Slices
import Derived.ProofKit
import Derived.OpenShut
set_option linter.unusedVariables false
set_option linter.unusedSimpArgs false
namespace Go.Proofs.Ytllpmpfchidhoaa.P
open Go.RowKit Go.Proofs.YtllpmpfchidhoaaW.PrintWords Go.Proofs.YtllpmpfchidhoaaW.PrintLast Go.Proofs.YtllpmpfchidhoaaW.PrintMore
attribute [local go_sem] max2_int min2_int max_two min_two max_three min_three max_four min_four
set_option linter.unusedVariables false
set_option linter.unusedSimpArgs false
end Go.Proofs.Ytllpmpfchidhoaa.P

namespace Go.Proofs.Ytllpmpfchidhoaa.C
open Go.RowKit Go.Proofs.Ytllpmpfchidhoaa.P Go.Proofs.Ytllpmpfchidhoaa.G Go.Proofs.YtllpmpfchidhoaaW.PrintWords
def gateOk (a b : Int) (kn : Bool) (n d x st gap : Int) (l : List Sl) (own : Int) : Bool := (!kn || ivalOk a b) && driftOk n d && decide (1 ≤ x ∧ x ≤ 1000000000000) && planOk st gap l && decide (0 ≤ own ∧ own ≤ 7)
def gateIn (a b : Int) (kn : Bool) (n d x st gap : Int) (l : List Sl) (own : Int) : Int × Int × Int :=
  if kn = true ∧ (gateSpan a b n d x).2.2 = true ∧ (inSlot st gap l own (gateSpan a b n d x).1 (gateSpan a b n d x).2.1).2.2 = true
  then ((inSlot st gap l own (gateSpan a b n d x).1 (gateSpan a b n d x).2.1).1, (inSlot st gap l own (gateSpan a b n d x).1 (gateSpan a b n d x).2.1).2.1, 0) else (0, 0, 2)
def gateAsk (a b : Int) (kn : Bool) (n d x st gap : Int) (l : List Sl) (own : Int) : Int × Int × Int :=
  if gateOk a b kn n d x st gap l own = true then gateIn a b kn n d x st gap l own else (0, 0, 1)
theorem sAskJ (a b : Int) (kn bad : Bool) (n d x st gap : Int) (l : List Sl) (hl : l.length ≤ 1048576) (own : Int) (k : Nat) (hk : 1050202 ≤ k) :
    spec_GateAsk.j0 k kn x own bad a b n d st gap l = some (if bad = true then (0, 0, 1) else gateIn a b kn n d x st gap l own) := by
  obtain ⟨k, rfl⟩ : ∃ j, k = j + 2 := ⟨k - 2, by omega⟩
  simp only [spec_GateAsk.j0]
  rw [sGateSpan (k + 1) a b n d x (by omega)]
  simp only [Option.bind_some, spec_GateAsk.j1]
  rw [sInSlot st gap l hl own _ _ k (by omega)]
  simp only [Option.bind_some]
  unfold gateIn
  cases bad with
  | true => simp
  | false =>
    cases kn with
    | false => simp
    | true =>
      cases (gateSpan a b n d x).2.2 with
      | false => simp
      | true =>
        cases (inSlot st gap l own (gateSpan a b n d x).1 (gateSpan a b n d x).2.1).2.2 <;> simp
theorem iAskJ (a b : Int) (kn bad : Bool) (n d x st gap : Int) (l : List Sl) (hl : l.length ≤ 1048576) (own : Int) (k : Nat) (hk : 1050202 ≤ k) :
    impl_GateAsk.j0 k kn x own bad a b n d st gap l = some (if bad = true then (0, 0, 1) else gateIn a b kn n d x st gap l own) := by
  obtain ⟨k, rfl⟩ : ∃ j, k = j + 2 := ⟨k - 2, by omega⟩
  simp only [impl_GateAsk.j0]
  rw [iGateSpan a b n d x]
  simp only [Option.bind_some, impl_GateAsk.j1]
  rw [iInSlot st gap l hl own _ _ k (by omega)]
  simp only [Option.bind_some]
  unfold gateIn
  cases bad with
  | true => simp
  | false =>
    cases kn with
    | false => simp
    | true =>
      cases (gateSpan a b n d x).2.2 with
      | false => simp
      | true =>
        cases (inSlot st gap l own (gateSpan a b n d x).1 (gateSpan a b n d x).2.1).2.2 <;> simp
theorem sGateAsk (a b : Int) (kn : Bool) (n d x st gap : Int) (l : List Sl) (hl : l.length ≤ 1048576) (own : Int) (k : Nat) (hk : 1050202 ≤ k) :
    spec_GateAsk.f k a b kn n d x st gap l own = some (gateAsk a b kn n d x st gap l own) := by
  unfold spec_GateAsk.f gateAsk gateOk
  simp only [sIvalOk, sDriftOk, l1In, sPlanOk st gap l hl k (by omega), l4Node, Option.bind_some, sAskJ _ _ _ _ _ _ _ _ _ l hl _ k hk]
  cases kn <;> cases ivalOk a b <;> cases driftOk n d <;> cases decide (1 ≤ x ∧ x ≤ 1000000000000) <;> cases planOk st gap l <;> cases decide (0 ≤ own ∧ own ≤ 7) <;> simp
theorem iGateAsk (a b : Int) (kn : Bool) (n d x st gap : Int) (l : List Sl) (hl : l.length ≤ 1048576) (own : Int) (k : Nat) (hk : 1050202 ≤ k) :
    impl_GateAsk.f k a b kn n d x st gap l own = some (gateAsk a b kn n d x st gap l own) := by
  unfold impl_GateAsk.f gateAsk gateOk
  simp only [iIvalOk, iDriftOk, in_, iPlanOk st gap l hl k (by omega), isNode, Option.bind_some, iAskJ _ _ _ _ _ _ _ _ _ l hl _ k hk]
  cases kn <;> cases ivalOk a b <;> cases driftOk n d <;> cases decide (1 ≤ x ∧ x ≤ 1000000000000) <;> cases planOk st gap l <;> cases decide (0 ≤ own ∧ own ≤ 7) <;> simp
theorem least_most {n d x : Int} (h : driftOk n d = true) (hx : timeOk x = true) (hm : (mostTime n d x).2 = true) : 0 ≤ (leastTime n d x).1 ∧ (leastTime n d x).1 ≤ x ∧ x ≤ (mostTime n d x).1 ∧ (mostTime n d x).1 ≤ 1000000000000 := by
  have h' := h; have hx' := hx
  rw [driftOk_iff] at h'; rw [timeOk_iff] at hx'
  have hb := mul_bd hx' (d := d) (by omega)
  have c1 : x ≤ x * d / (d - n) := by
    apply Int.le_ediv_of_mul_le (by omega)
    have : x * (d - n) ≤ x * d := Int.mul_le_mul_of_nonneg_left (by omega) hx'.1
    exact this
  have c2 : -x ≤ -(x * d) / (d + n) := by
    apply Int.le_ediv_of_mul_le (by omega)
    have : x * d ≤ x * (d + n) := Int.mul_le_mul_of_nonneg_left (by omega) hx'.1
    have e : -x * (d + n) = -(x * (d + n)) := Int.neg_mul _ _
    omega
  have c3 : -(x * d) / (d + n) ≤ 0 := by
    rcases Int.lt_or_le 0 (-(x * d) / (d + n)) with c | c
    · have h2 := Int.mul_ediv_add_emod (-(x * d)) (d + n)
      have h3 := Int.emod_nonneg (-(x * d)) (by omega : d + n ≠ 0)
      have : (d + n) * 1 ≤ (d + n) * (-(x * d) / (d + n)) := Int.mul_le_mul_of_nonneg_left (by omega) (by omega); omega
    · exact c
  have hg : (driftOk n d && timeOk x) = true := by rw [h, hx]; rfl
  unfold mostTime at hm ⊢
  unfold leastTime
  rw [if_pos hg] at hm ⊢
  rw [if_pos hg]
  split at hm
  · rename_i hc
    rw [if_pos hc]
    split
    · simp only; omega
    · simp only; omega
  · simp at hm
theorem if_true {P : Prop} [Decidable P] {u v : Int × Int × Bool} (h1 : (if P then u else v).2.2 = true) (h2 : v.2.2 = false) : P ∧ (if P then u else v) = u := by
  by_cases hp : P
  · exact ⟨hp, if_pos hp⟩
  · rw [if_neg hp, h2] at h1; cases h1
theorem inSlot_true {st gap : Int} {l : List Sl} {owner a b : Int} (h : (inSlot st gap l owner a b).2.2 = true) :
    ((slotAt st gap l a).2.2 = true ∧ (match l[(slotAt st gap l a).1.toNat]? with | some x => x.f0 | none => -1) = owner ∧ a ≤ b ∧ b ≤ (occurrence st gap l (slotAt st gap l a).1 (slotAt st gap l a).2.1).2.1) ∧ inSlot st gap l owner a b = ((slotAt st gap l a).1, (slotAt st gap l a).2.1, true) :=
  if_true h rfl
theorem gate_true {a b : Int} {kn : Bool} {n d x st gap : Int} {l : List Sl} {own : Int} (h : (gateAsk a b kn n d x st gap l own).2.2 = 0) :
    kn = true ∧ ivalOk a b = true ∧ driftOk n d = true ∧ timeOk x = true ∧ planOk st gap l = true ∧ (mostTime n d x).2 = true ∧
    ∃ i : Nat, ∃ hi : i < l.length, ∃ q : Int, gateAsk a b kn n d x st gap l own = ((i : Int), q, 0) ∧ l[i].f0 = own ∧ occurrence st gap l (i : Int) q = (st + q * round gap l + upto gap l i, st + q * round gap l + upto gap l i + l[i].f1, true) ∧
      st + q * round gap l + upto gap l i ≤ a ∧ b + (mostTime n d x).1 ≤ st + q * round gap l + upto gap l i + l[i].f1 := by
  unfold gateAsk at h ⊢
  cases hg : gateOk a b kn n d x st gap l own with
  | false => rw [hg] at h; simp at h
  | true =>
    rw [hg, if_pos rfl] at h
    rw [if_pos rfl]
    unfold gateIn at h ⊢
    split at h
    · rename_i hc
      rw [if_pos hc]
      obtain ⟨hk, hs, hin⟩ := hc
      have hg' := hg
      unfold gateOk at hg'
      simp only [Bool.and_eq_true, decide_eq_true_eq] at hg'
      obtain ⟨⟨⟨⟨h1, h2⟩, h3⟩, h4⟩, h5⟩ := hg'
      rw [hk] at h1
      have hab : ivalOk a b = true := by simpa using h1
      have hx : timeOk x = true := by rw [timeOk_iff]; omega
      have hm : (mostTime n d x).2 = true := by
        unfold gateSpan at hs; split at hs
        · rename_i h; exact h
        · simp at hs
      have hl := least_most h2 hx hm
      have hsp : gateSpan a b n d x = (a, b + (mostTime n d x).1, true) := by
        unfold gateSpan at hs ⊢
        rw [if_pos hm, if_neg (by omega)] at hs ⊢
        unfold spread at hs ⊢
        split at hs
        · rename_i hc
          rw [if_pos hc]
          rw [(ivalT_ok hs).1, Int.sub_zero]
        · simp at hs
      rw [hsp] at hin ⊢
      simp only at hin ⊢
      · obtain ⟨⟨i1, i2, i3, i4⟩, i5⟩ := inSlot_true hin
        rw [i5]
        obtain ⟨i, hil, e1, e2, e3, e4, e5, e6, e7⟩ := slotAt_in i1
        rw [e1] at i2
        have e8 : ((i : Int)).toNat = i := by omega
        rw [e8, List.getElem?_eq_getElem hil] at i2
        simp only at i2
        have hq := when_q e2 (by rw [timeOk_iff] at e3; exact e3) e4
        have ho : occurrence st gap l (i : Int) ((a - st) / round gap l) = (st + (a - st) / round gap l * round gap l + upto gap l i, st + (a - st) / round gap l * round gap l + upto gap l i + l[i].f1, true) := by
          unfold occurrence
          have : isSlot st gap l (i : Int) = true := by rw [isSlot_iff]; exact ⟨e2, by omega, by omega⟩
          rw [if_pos this, e8]
          rw [occ_eq hil ⟨hq.1, hq.2.1⟩] at e7 ⊢
          exact (ivalT_ok e7).1
        have hoc := (occ_in e2 (by rw [timeOk_iff] at e3; exact e3) e4 i hil e7).2 e6
        rw [occ_eq hil ⟨hq.1, hq.2.1⟩] at hoc e7
        rw [(ivalT_ok e7).1] at hoc
        simp only at hoc
        rw [e1, e5, ho] at i4
        simp only at i4
        refine ⟨hk, hab, h2, hx, h4, hm, i, hil, (a - st) / round gap l, ?_, i2, ho, hoc.1, i4⟩
        rw [e1, e5]
    · simp at h
theorem sWide (a b : Int) (h : ivalOk a b = true) : spec_Wide.f a b = some (b - a) := by
  unfold spec_Wide.f
  rw [sIvalOk, h]
  simp only [Option.bind_some]
  rw [ivalOk_iff] at h
  rw [if_pos trivial, wrap_id (by omega) (by omega)]
end Go.Proofs.Ytllpmpfchidhoaa.C
namespace Go.Proofs.Ytllpmpfchidhoaa.V
open Go.RowKit Go.Proofs.Ytllpmpfchidhoaa.P Go.Proofs.Ytllpmpfchidhoaa.C Go.Proofs.Ytllpmpfchidhoaa.G
theorem FnGateTruth : ∀ (l0 : List Int), (l0.length ≤ 9223372036854775807 ∧ ∀ y ∈ l0, (Lit.int .u8 y).wf = true) → ∃ k, laws_FnGateTruth.f k l0 = some true := by
  intro s ⟨hs, hb⟩
  refine ⟨2000000, ?_⟩
  unfold laws_FnGateTruth.f
  rw [dBig, Option.bind_some]
  by_cases hbig : (s.length : Int) > 1048576
  · rw [decide_eq_true hbig, if_pos rfl]
  rw [decide_eq_false hbig, if_neg (by decide)]
  obtain ⟨a, b, kn, n, d, x, st, gap, l, own, e, hl⟩ := dGateAsk s (by omega) 2000000 (by omega)
  rw [e, Option.bind_some]
  simp only
  rw [iGateAsk _ _ _ _ _ _ _ _ l (by omega) _ _ (by omega), Option.bind_some, sGateAsk _ _ _ _ _ _ _ _ l (by omega) _ _ (by omega), Option.bind_some, if_pos rfl]
  by_cases h0 : (gateAsk a b kn n d x st gap l own).2.2 = 0
  · rw [if_pos h0]
    obtain ⟨h1, h2, h3, h4, h5, h6, i, hi, q, h7, h8, h9, h10, h11⟩ := gate_true h0
    have hlm := least_most h3 h4 h6
    have hiv := h2
    rw [ivalOk_iff] at hiv
    rw [h7]
    simp only
    rw [iOccurrence st gap l (by omega) _ _ _ (by omega), Option.bind_some, sMostTime _ n d x (by omega), Option.bind_some, sLeastTime _ n d x (by omega), Option.bind_some]
    obtain ⟨v1, e1, v1a, v1b⟩ := dAt s (by omega) hb 1 (by omega)
    obtain ⟨v2, e2, v2a, v2b⟩ := dAt s (by omega) hb 2 (by omega)
    rw [e1, Option.bind_some, sWide a b h2, Option.bind_some, e2]
    simp only [Option.bind_some]
    have p1 := pick_in v1a (show 0 < b - a + 1 by omega)
    have p2 := pick_in v2a (show 0 < (mostTime n d x).1 - (leastTime n d x).1 + 1 by omega)
    rw [wrap_id (x := b - a + 1) (by omega) (by omega), if_neg (by omega), wrap_id (x := (mostTime n d x).1 - (leastTime n d x).1) (by omega) (by omega), wrap_id (x := (mostTime n d x).1 - (leastTime n d x).1 + 1) (by omega) (by omega), if_neg (by omega), h9]
    simp only
    have hp := h5
    rw [planOk_iff] at hp
    have hsl := slotsOk_get hp.2.2.2 i hi
    rw [if_pos trivial, if_pos (by omega), if_pos (by omega), rdSl l i hi, if_pos h8, wrap_id (x := a + Int.tmod v1 (b - a + 1)) (by omega) (by omega), if_pos (by omega), wrap_id (x := (leastTime n d x).1 + Int.tmod v2 ((mostTime n d x).1 - (leastTime n d x).1 + 1)) (by omega) (by omega), wrap_id (x := a + Int.tmod v1 (b - a + 1) + ((leastTime n d x).1 + Int.tmod v2 ((mostTime n d x).1 - (leastTime n d x).1 + 1))) (by omega) (by omega), if_pos (by omega), wrap_id (by omega) (by omega), decide_eq_true (by omega)]
  · rw [if_neg h0]
    unfold gateAsk gateIn at h0 ⊢
    split
    · rename_i hg
      rw [if_pos hg] at h0
      split
      · rename_i hc; rw [if_pos hc] at h0; exact absurd rfl h0
      · rfl
    · rfl
end Go.Proofs.Ytllpmpfchidhoaa.V
namespace Go.Proofs.Ytllpmpfchidhoaa.Args
open Go.ChangeShapes Go.WideShapes Go.Deep Go.Proofs.YtllpmpfchidhoaaW.PrintWords
def Opens (P : Program) (t : TypeId) {α : Type} (d : Kd α) (B : α → Prop) : Prop :=
  ∀ {H : Type} {enc : TypeId × Value → H} {w : World} {base : Nat} {spare : Nat → Bool} {held : Bool} {fuel : Nat} {cs : List Value} {x : DataW H × List MemPlace},
    DataW.trod enc P w base spare held fuel t cs = some x → ∃ a, d.K w a cs ∧ B a
theorem open_row {H : Type} {enc : TypeId × Value → H} {P : Program} {w : World} {base : Nat} {spare : Nat → Bool} {held : Bool} {fuel : Nat} {t e : TypeId} {c : Value} {x : DataW H × List MemPlace} {α : Type} {d : Kd α} {B : α → Prop} (z : α)
    (ht : P.underlying t = some (.slice e)) (hsz : P.cellsOf e = d.sz) (he : Opens P e d B) (h : DataW.trod enc P w base spare held fuel t [c] = some x) :
    ∃ A cap l, c = .slice A l.length cap ∧ Kd.C d w A l.length l ∧ l.length ≤ cap ∧ l.length ≤ 9223372036854775807 ∧ ∀ y ∈ l, B y := by
  haveI : Inhabited α := ⟨z⟩
  rcases open_slice ht h with ⟨hc, _⟩ | ⟨a, len, cap, m, n, D, Pl, hc, _, hl, hm, hmm, _, hx⟩
  · obtain rfl := List.head_eq_of_cons_eq hc
    exact ⟨none, 0, [], rfl, Kd.C_nil _ _, Nat.le_refl _, by simp, fun y hy => by cases hy⟩
  · obtain rfl := List.head_eq_of_cons_eq hc
    have hlm : len ≤ m := by rw [hmm]; split <;> omega
    obtain ⟨f, hf⟩ := choose_lt (α := α) (n := len) (p := fun i y => (∃ c', c'.length = d.sz ∧ d.K w y c' ∧ ∀ k u, c'[k]? = some u → w.cell? (a.add (i * d.sz + k)) = some u) ∧ B y) (fun i hi => by
      obtain ⟨cs', h1, h2⟩ := hx i (by omega)
      obtain ⟨y, hk, hb⟩ := he h2
      refine ⟨y, ⟨cs', d.K_len hk, hk, fun k u hu => ?_⟩, hb⟩
      obtain ⟨_, hlen, hcell⟩ := World.cells?_some h1
      have hk2 : k < cs'.length := (List.getElem?_eq_some_iff.1 hu).1
      have := hcell k (by omega)
      rw [hsz, Addr.add_add] at this
      rw [this, hu])
    have hmax : len ≤ 9223372036854775807 := by unfold maxLen at hm; omega
    refine ⟨some a, cap, (List.range len).map f, by simp, ⟨by simp, by simpa using hmax, fun _ => ⟨a, rfl, fun j p hj => ?_⟩⟩, by simpa using hl, by simpa using hmax, fun y hy => ?_⟩
    · have hj2 : j < len := by simpa using (List.getElem?_eq_some_iff.1 hj).1
      rw [List.getElem?_map, List.getElem?_range hj2] at hj
      obtain rfl := Option.some.inj hj
      exact (hf j hj2).1
    · obtain ⟨j, hj, rfl⟩ := List.mem_map.1 hy
      exact (hf j (List.mem_range.1 hj)).2
theorem opens_int {P : Program} {t : TypeId} {k : IntKind} (ht : P.underlying t = some (.int k)) : Opens P t (Kd.int k) (fun x => (Lit.int k x).wf = true) := by
  intro H enc w base spare held fuel cs x h
  obtain ⟨n, rfl, _, hw⟩ := DataW.trod_int ht h
  exact ⟨n, rfl, hw⟩
end Go.Proofs.Ytllpmpfchidhoaa.Args
