/- Texts of the seat's proofs, part 10: functions of the program told as plain functions, with their contracts, and what is shown of them. No condition. -/
import Derived.Test.YtpjahhljpoeaeaaUKFS
import Derived.Test.YtpjahhljpoeaeaaKFS9
import Derived.Test.YtpjahhljpoeaeaaKFS6
import Derived.Test.YtpjahhljpoeaeaaKFS1
import Derived.Test.YtpjahhljpoeaeaaKFS4
import Derived.Deep.Slices
import Derived.ProofKit
import Derived.OpenShut
set_option linter.unusedVariables false
set_option linter.unusedSimpArgs false
namespace Go.Proofs.Ytpjahhljpoeaeaa.V
open Go.RowKit Go.Proofs.Ytpjahhljpoeaeaa.P Go.Proofs.Ytpjahhljpoeaeaa.C Go.Proofs.Ytpjahhljpoeaeaa.G Go.Proofs.YtpjahhljpoeaeaaW.PrintWords
def isum : List Int → Int
  | [] => 0
  | x :: l => x + isum l
theorem isum_append (a b : List Int) : isum (a ++ b) = isum a + isum b := by
  induction a with
  | nil => simp [isum]
  | cons x a ih => simp only [List.cons_append, isum]; rw [ih]; omega
theorem isum_ite {os : List Int} (h : Ascs os) (x v : Int) (hx : x ∈ os) (f : Int → Int) : isum (os.map fun o => if x = o then f o + v else f o) = isum (os.map f) + v := by
  have no : ∀ {l : List Int}, x ∉ l → isum (l.map fun o => if x = o then f o + v else f o) = isum (l.map f) := by
    intro l
    induction l with
    | nil => intro _; rfl
    | cons y l ih =>
      intro hn
      simp only [List.map_cons, isum]
      rw [if_neg (fun e => hn (by simp [e])), ih (fun hm => hn (by simp [hm]))]
  induction os with
  | nil => simp at hx
  | cons y os ih =>
    unfold Ascs at h
    rw [List.pairwise_cons] at h
    simp only [List.map_cons, isum]
    by_cases e : x = y
    · subst e
      rw [if_pos rfl, no (fun hm => by have := h.1 x hm; omega)]; omega
    · have hx' : x ∈ os := by
        rcases List.mem_cons.1 hx with h1 | h1
        · exact absurd h1 e
        · exact h1
      rw [if_neg e, ih h.2 hx']; omega
theorem own_sums {st gap : Int} {l : List Sl} (h : planOk st gap l = true) : ∀ n, n ≤ l.length → isum ((ownersOf st gap l).map fun o => ownSum o l n) + gap * n = upto gap l n := by
  intro n
  induction n with
  | zero =>
    intro _
    have : ∀ os : List Int, isum (os.map fun o => ownSum o l 0) = 0 := by
      intro os
      induction os with
      | nil => rfl
      | cons y os ih => simp only [List.map_cons, isum]; rw [ih]; rfl
    rw [this, upto_zero]; simp
  | succ n ih =>
    intro hn
    have h1 := ih (by omega)
    rw [upto_succ gap l n (by omega)]
    have e1 : (fun o => ownSum o l (n + 1)) = fun o => if l[n].f0 = o then ownSum o l n + l[n].f1 else ownSum o l n := by
      funext o; exact ownSum_succ o l n (by omega)
    have hm : l[n].f0 ∈ ownersOf st gap l := by
      unfold ownersOf
      rw [if_pos h, mem_below8, decide_eq_true_iff, mem_owns]
      rw [planOk_iff] at h
      have := slotsOk_get h.2.2.2 n (by omega)
      exact ⟨by omega, n, by omega, rfl⟩
    have ha : Ascs (ownersOf st gap l) := by unfold ownersOf; rw [if_pos h]; exact below8_ascs _
    have e2 : gap * ((n + 1 : Nat) : Int) = gap * (n : Int) + gap := by rw [show ((n + 1 : Nat) : Int) = (n : Int) + 1 by omega, Int.mul_add, Int.mul_one]
    rw [e1, isum_ite ha _ _ hm, e2]; omega
theorem ownSum_pos {own : Int} {l : List Sl} (h : slotsOk l = true) (i : Nat) (hi : i < l.length) (ho : l[i].f0 = own) : ∀ n, n ≤ l.length → i < n → 1 ≤ ownSum own l n := by
  intro n
  induction n with
  | zero => intro _ h; omega
  | succ n ih =>
    intro hn hin
    have hb := ownSum_bd h n (own := own) (by omega)
    have hs := slotsOk_get h n (by omega)
    rw [ownSum_succ own l n (by omega)]
    rcases Nat.lt_or_ge i n with c | c
    · have := ih (by omega) c
      split <;> omega
    · obtain rfl : i = n := by omega
      rw [if_pos ho]; omega
theorem ownSum_zero {own : Int} {l : List Sl} (h : ∀ i (hi : i < l.length), l[i].f0 ≠ own) : ∀ n, n ≤ l.length → ownSum own l n = 0 := by
  intro n
  induction n with
  | zero => intro _; rfl
  | succ n ih =>
    intro hn
    rw [ownSum_succ own l n (by omega), if_neg (h n (by omega)), ih (by omega)]
theorem share_parts {st gap : Int} {l : List Sl} (h : planOk st gap l = true) (own : Int) : ∃ (g a b : Nat), 1 ≤ g ∧ 1 ≤ b ∧ shareOf st gap l own = ((a : Int), (b : Int), true) ∧ ownSum own l l.length = ((a * g : Nat) : Int) ∧ round gap l = ((b * g : Nat) : Int) := by
  have hr := round_bd h
  have h' := h
  rw [planOk_iff] at h'
  have hs := ownSum_bd h'.2.2.2 (own := own) l.length (Nat.le_refl _)
  unfold shareOf
  rw [if_pos h]
  unfold frac
  obtain ⟨S, hS⟩ := Int.eq_ofNat_of_zero_le hs.1
  obtain ⟨R, hR⟩ := Int.eq_ofNat_of_zero_le (show 0 ≤ round gap l by omega)
  rw [hS, hR, Int.toNat_natCast, Int.toNat_natCast]
  have hRp : 0 < R := by omega
  have hg : 0 < Nat.gcd S R := Nat.gcd_pos_of_pos_right _ hRp
  refine ⟨Nat.gcd S R, S / Nat.gcd S R, R / Nat.gcd S R, hg, Nat.div_pos (Nat.le_of_dvd hRp (Nat.gcd_dvd_right _ _)) hg, rfl, ?_, ?_⟩
  · rw [Nat.div_mul_cancel (Nat.gcd_dvd_left _ _)]
  · rw [Nat.div_mul_cancel (Nat.gcd_dvd_right _ _)]
theorem dShareOf (s : List Int) (hs : s.length ≤ 1048576) (k : Nat) (hk : 1050300 ≤ k) : ∃ st gap l o, spec_DrawShareOf.f k s = some (st, gap, l, o) ∧ l.length ≤ 13 := by
  unfold spec_DrawShareOf.f
  obtain ⟨z0, e0, a0⟩ := dNew s hs k (by omega)
  rw [e0, Option.bind_some]
  obtain ⟨st, gap, l, p1, z1, e1, a1, hl⟩ := dAny s 0 z0 a0 k (by omega)
  rw [e1, Option.bind_some]
  obtain ⟨o, p2, z2, e2, a2, _⟩ := dBelow s p1 z1 6 a1
  rw [e2, Option.bind_some]
  exact ⟨_, _, _, _, rfl, hl⟩
theorem within_ (xs : List Int) (hx : xs.length ≤ 1000) (v : Int) (k : Nat) (hk : 2000 ≤ k) : laws_within.f k xs v = some (decide (v ∈ xs)) := by
  unfold laws_within.f
  have := find_loop0 (n := xs.length) (c := 0) (L := fun k i => laws_within.l0 k xs v i) (Q := fun i => xs[i]? == some v) (r := fun _ => true) (e := false) (fun k i hi _ => ?_) (fun k => ?_) k (by omega)
  · rw [this]
    congr 1
    rw [Bool.eq_iff_iff, decide_eq_true_iff]
    exact hasI_iff xs v
  · simp only [laws_within.l0]
    have hrd : rd xs (i : Int) = xs[i] := by unfold rd; simp [List.getD, hi]
    rw [if_pos (by omega), if_pos (by omega), wrap_succ hi (by omega), hrd, List.getElem?_eq_getElem hi]
    by_cases h : xs[i] = v <;> simp [h]
  · simp only [laws_within.l0]
    rw [if_neg (by omega)]
theorem sharesL {st gap : Int} {l : List Sl} (h : planOk st gap l = true) (own : Int) (k : Nat) (hk : 13400000 ≤ k) :
    laws_FnShares.l0 k own (ownersOf st gap l) (round gap l) (gap * l.length) 0 st gap l (shareOf st gap l own).1 (shareOf st gap l own).2.1 = some true := by
  have h' := h
  rw [planOk_iff] at h'
  have hr := round_bd h
  have hol := ownersOf_len st gap l
  have hasc : Ascs (ownersOf st gap l) := by unfold ownersOf; rw [if_pos h]; exact below8_ascs _
  have hmem : ∀ x ∈ ownersOf st gap l, ∃ i, ∃ hi : i < l.length, l[i].f0 = x := fun x hx => by
    unfold ownersOf at hx
    rw [if_pos h, mem_below8, decide_eq_true_iff, mem_owns] at hx
    exact hx.2
  have hgl : 0 ≤ gap * (l.length : Int) ∧ gap * (l.length : Int) ≤ 1200000 := by
    have h1 : gap * (l.length : Int) ≤ gap * 12 := Int.mul_le_mul_of_nonneg_left (by omega) (by omega)
    have h2 : 0 ≤ gap * (l.length : Int) := Int.mul_nonneg (by omega) (by omega)
    omega
  have hpart : ∀ i, i ≤ (ownersOf st gap l).length → 0 ≤ isum (((ownersOf st gap l).take i).map fun o => ownSum o l l.length) ∧ isum (((ownersOf st gap l).take i).map fun o => ownSum o l l.length) ≤ 12000000 * i := by
    intro i
    induction i with
    | zero => intro _; simp [isum]
    | succ i ih =>
      intro hi
      have h1 := ih (by omega)
      have hb := ownSum_bd h'.2.2.2 (own := (ownersOf st gap l)[i]) l.length (Nat.le_refl _)
      rw [List.take_succ_eq_append_getElem (by omega), List.map_append, isum_append]
      simp only [List.map_cons, List.map_nil, isum]
      omega
  have := track_loop0 (n := (ownersOf st gap l).length) (c := 13310000) (σ := Int) (F := fun i => gap * l.length + isum (((ownersOf st gap l).take i).map fun o => ownSum o l l.length)) (L := fun k s i => laws_FnShares.l0 k own (ownersOf st gap l) (round gap l) s i st gap l (shareOf st gap l own).1 (shareOf st gap l own).2.1) (r := true) (fun k i hi hk => ?_) (fun k hk => ?_) k (by omega)
  · simpa [isum] using this
  · simp only [laws_FnShares.l0]
    have hrd : ∀ j (hj : j < (ownersOf st gap l).length), rd (ownersOf st gap l) (j : Int) = (ownersOf st gap l)[j] := fun j hj => by unfold rd; simp [List.getD, hj]
    obtain ⟨g, a, b, hg, hb1, e1, e2, e3⟩ := share_parts h (ownersOf st gap l)[i]
    obtain ⟨j, hj, hjo⟩ := hmem _ (List.getElem_mem hi)
    have hpos := ownSum_pos h'.2.2.2 j hj hjo l.length (Nat.le_refl _) hj
    have ha1 : 1 ≤ a := by
      rcases Nat.eq_zero_or_pos a with c | c
      · rw [c, Nat.zero_mul] at e2; omega
      · exact c
    have hSb := ownSum_bd h'.2.2.2 (own := (ownersOf st gap l)[i]) l.length (Nat.le_refl _)
    have hagb : a * g ≤ 12000000 := by omega
    have hbg : b * g ≤ 13200000 := by omega
    have hbb : b ≤ b * g := Nat.le_mul_of_pos_right b hg
    have hmod : Int.tmod (round gap l) (b : Int) = 0 := by
      rw [e3, Int.tmod_eq_emod_of_nonneg (by omega)]
      have : ((b * g : Nat) : Int) % (b : Int) = ((b * g % b : Nat) : Int) := rfl
      rw [this, Nat.mul_mod_right]; rfl
    have hdiv : Int.tdiv (round gap l) (b : Int) = (g : Int) := by
      rw [e3]
      have : Int.tdiv ((b * g : Nat) : Int) (b : Int) = ((b * g / b : Nat) : Int) := rfl
      rw [this, Nat.mul_div_cancel_left _ (by omega)]
    have hg2 : g ≤ b * g := Nat.le_mul_of_pos_left g (by omega)
    have hp1 := hpart i (by omega)
    have e5 : ((a : Nat) : Int) * ((g : Nat) : Int) = ((a * g : Nat) : Int) := by rw [Int.natCast_mul]
    have hstep : wrap64 (gap * l.length + isum (((ownersOf st gap l).take i).map fun o => ownSum o l l.length) + wrap64 ((a : Int) * wrap64 (Int.tdiv (round gap l) (b : Int)))) = gap * l.length + isum (((ownersOf st gap l).take (i + 1)).map fun o => ownSum o l l.length) := by
      rw [hdiv, wrap_id (x := (g : Int)) (by omega) (by omega), e5, wrap_id (x := ((a * g : Nat) : Int)) (by omega) (by omega), wrap_id (by omega) (by omega), List.take_succ_eq_append_getElem hi, List.map_append, isum_append]
      simp only [List.map_cons, List.map_nil, isum]
      omega
    rw [if_pos (by omega), if_pos (by omega), hrd i hi, iShareOf st gap l (by omega) _ _ (by omega), Option.bind_some, e1]
    simp only
    rw [if_pos (by trivial), if_neg (by omega), if_neg (by omega), if_pos hmod, if_neg (by omega), hstep, wrap_succ hi (by omega)]
    by_cases hi0 : (i : Int) > 0
    · have w1 : wrap64 ((i : Int) - 1) = ((i - 1 : Nat) : Int) := wrap_pred (n := (ownersOf st gap l).length) (by omega) hi (by omega)
      have hlt := List.pairwise_iff_getElem.1 hasc (i - 1) i (by omega) hi (by omega)
      rw [if_pos hi0, w1, if_pos (by omega), if_pos (by omega), hrd (i - 1) (by omega), if_neg (by omega)]
    · rw [if_neg hi0]
  · simp only [laws_FnShares.l0]
    have hsum := own_sums h l.length (Nat.le_refl _)
    rw [if_neg (by omega), List.take_length, if_pos (by show _ = upto gap l l.length; omega), within_ _ (by omega) _ _ (by omega), Option.bind_some]
    congr 1
    obtain ⟨g, a, b, hg, hb1, e1, e2, e3⟩ := share_parts h own
    rw [e1]
    simp only
    have hiff : own ∈ ownersOf st gap l ↔ ∃ i, ∃ hi : i < l.length, l[i].f0 = own := by
      unfold ownersOf
      rw [if_pos h, mem_below8, decide_eq_true_iff, mem_owns]
      constructor
      · exact fun h => h.2
      · rintro ⟨i, hi, rfl⟩
        have := slotsOk_get h'.2.2.2 i hi
        exact ⟨by omega, i, hi, rfl⟩
    by_cases hm : own ∈ ownersOf st gap l
    · obtain ⟨i, hi, ho⟩ := hiff.1 hm
      have hpos := ownSum_pos h'.2.2.2 i hi ho l.length (Nat.le_refl _) hi
      have ha1 : a ≠ 0 := fun c => by rw [c, Nat.zero_mul] at e2; omega
      rw [decide_eq_true hm, beq_eq_false_iff_ne.2 (show (a : Int) ≠ 0 by omega)]; rfl
    · have hz := ownSum_zero (l := l) (own := own) (fun i hi e => hm (hiff.2 ⟨i, hi, e⟩)) l.length (Nat.le_refl _)
      have ha0 : a = 0 := by
        rcases Nat.eq_zero_or_pos a with c | c
        · exact c
        · have : 1 * 1 ≤ a * g := Nat.mul_le_mul c hg; omega
      rw [decide_eq_false hm, ha0]; rfl
theorem FnShares : ∀ (l0 : List Int), (l0.length ≤ 9223372036854775807 ∧ ∀ y ∈ l0, (Lit.int .u8 y).wf = true) → ∃ k, laws_FnShares.f k l0 = some true := by
  intro s ⟨hs, hb⟩
  refine ⟨20000000, ?_⟩
  unfold laws_FnShares.f
  rw [dBig, Option.bind_some]
  by_cases hbig : (s.length : Int) > 1048576
  · rw [decide_eq_true hbig, if_pos rfl]
  rw [decide_eq_false hbig, if_neg (by decide)]
  obtain ⟨st, gap, l, own, e, hl⟩ := dShareOf s (by omega) 20000000 (by omega)
  rw [e, Option.bind_some]
  simp only
  rw [iShareOf st gap l (by omega) own _ (by omega), Option.bind_some, sPlanOk st gap l (by omega) _ (by omega), Option.bind_some]
  cases h : planOk st gap l with
  | false =>
    have : shareOf st gap l own = (0, 0, false) := by unfold shareOf; rw [h]; rfl
    rw [this, iOwnersOf st gap l (by omega) _ (by omega), Option.bind_some]
    have : ownersOf st gap l = [] := by unfold ownersOf; rw [h]; rfl
    rw [this]; rfl
  | true =>
    obtain ⟨g, a, b, hg, hb1, e1, e2, e3⟩ := share_parts h own
    have h' := h
    rw [planOk_iff] at h'
    have hgl : 0 ≤ gap * (l.length : Int) ∧ gap * (l.length : Int) ≤ 1200000 := by
      have h1 : gap * (l.length : Int) ≤ gap * 12 := Int.mul_le_mul_of_nonneg_left (by omega) (by omega)
      have h2 : 0 ≤ gap * (l.length : Int) := Int.mul_nonneg (by omega) (by omega)
      omega
    have hL := sharesL h own 20000000 (by omega)
    rw [e1] at hL ⊢
    simp only at hL ⊢
    rw [if_neg (by decide), if_pos trivial, iOwnersOf st gap l (by omega) _ (by omega), Option.bind_some, iRoundOf st gap l (by omega) _ (by omega), Option.bind_some, wrap_id (x := gap * (l.length : Int)) (by omega) (by omega)]
    have hro : roundOf st gap l = round gap l := by unfold roundOf; rw [if_pos h]
    rw [hro]
    exact hL
end Go.Proofs.Ytpjahhljpoeaeaa.V
namespace Go.Proofs.Ytpjahhljpoeaeaa.Args
open Go.ChangeShapes Go.WideShapes Go.Deep Go.Proofs.YtpjahhljpoeaeaaW.PrintWords
def Opens (P : Program) (t : TypeId) {α : Type} (d : Kd α) (B : α → Prop) : Prop :=
  ∀ {H : Type} {enc : TypeId × Value → H} {w : World} {base : Nat} {spare : Nat → Bool} {held : Bool} {fuel : Nat} {cs : List Value} {x : DataW H × List MemPlace},
    DataW.trod enc P w base spare held fuel t cs = some x → ∃ a, d.K w a cs ∧ B a
theorem open_row {H : Type} {enc : TypeId × Value → H} {P : Program} {w : World} {base : Nat} {spare : Nat → Bool} {held : Bool} {fuel : Nat} {t e : TypeId} {c : Value} {x : DataW H × List MemPlace} {α : Type} {d : Kd α} {B : α → Prop} (z : α)
    (ht : P.underlying t = some (.slice e)) (hsz : P.cellsOf e = d.sz) (he : Opens P e d B) (h : DataW.trod enc P w base spare held fuel t [c] = some x) :
    ∃ A cap l, c = .slice A l.length cap ∧ Kd.C d w A l.length l ∧ l.length ≤ cap ∧ l.length ≤ 9223372036854775807 ∧ ∀ y ∈ l, B y := by
  haveI : Inhabited α := ⟨z⟩
  rcases open_slice ht h with ⟨hc, _⟩ | ⟨a, len, cap, m, n, D, Pl, hc, _, hl, hm, hmm, _, hx⟩
  · obtain rfl := List.head_eq_of_cons_eq hc
    exact ⟨none, 0, [], rfl, Kd.C_nil _ _, Nat.le_refl _, by simp, fun y hy => by cases hy⟩
  · obtain rfl := List.head_eq_of_cons_eq hc
    have hlm : len ≤ m := by rw [hmm]; split <;> omega
    obtain ⟨f, hf⟩ := choose_lt (α := α) (n := len) (p := fun i y => (∃ c', c'.length = d.sz ∧ d.K w y c' ∧ ∀ k u, c'[k]? = some u → w.cell? (a.add (i * d.sz + k)) = some u) ∧ B y) (fun i hi => by
      obtain ⟨cs', h1, h2⟩ := hx i (by omega)
      obtain ⟨y, hk, hb⟩ := he h2
      refine ⟨y, ⟨cs', d.K_len hk, hk, fun k u hu => ?_⟩, hb⟩
      obtain ⟨_, hlen, hcell⟩ := World.cells?_some h1
      have hk2 : k < cs'.length := (List.getElem?_eq_some_iff.1 hu).1
      have := hcell k (by omega)
      rw [hsz, Addr.add_add] at this
      rw [this, hu])
    have hmax : len ≤ 9223372036854775807 := by unfold maxLen at hm; omega
    refine ⟨some a, cap, (List.range len).map f, by simp, ⟨by simp, by simpa using hmax, fun _ => ⟨a, rfl, fun j p hj => ?_⟩⟩, by simpa using hl, by simpa using hmax, fun y hy => ?_⟩
    · have hj2 : j < len := by simpa using (List.getElem?_eq_some_iff.1 hj).1
      rw [List.getElem?_map, List.getElem?_range hj2] at hj
      obtain rfl := Option.some.inj hj
      exact (hf j hj2).1
    · obtain ⟨j, hj, rfl⟩ := List.mem_map.1 hy
      exact (hf j (List.mem_range.1 hj)).2
theorem opens_int {P : Program} {t : TypeId} {k : IntKind} (ht : P.underlying t = some (.int k)) : Opens P t (Kd.int k) (fun x => (Lit.int k x).wf = true) := by
  intro H enc w base spare held fuel cs x h
  obtain ⟨n, rfl, _, hw⟩ := DataW.trod_int ht h
  exact ⟨n, rfl, hw⟩
end Go.Proofs.Ytpjahhljpoeaeaa.Args
