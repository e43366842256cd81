/- Texts of the seat's proofs, part 6: functions of the program told as plain functions, with their contracts, and what is shown of them. No condition. -/
import Derived.Test.YtcgdnfaclbnflaaUKFRO
import Derived.Test.YtcgdnfaclbnflaaKFRO1
import Derived.Test.YtcgdnfaclbnflaaKFRO2
import Derived.Test.YtcgdnfaclbnflaaKFRO5
import Derived.Test.YtcgdnfaclbnflaaKFRO4
import Derived.Test.YtcgdnfaclbnflaaKFRO3
import Derived.Deep.Slices
import Derived.ProofKit
import Derived.OpenShut
set_option linter.unusedVariables false
set_option linter.unusedSimpArgs false
namespace Go.Proofs.Ytcgdnfaclbnflaa.P
open Go.RowKit Go.Proofs.YtcgdnfaclbnflaaW.PrintWords Go.Proofs.YtcgdnfaclbnflaaW.PrintLast Go.Proofs.YtcgdnfaclbnflaaW.PrintMore
attribute [local go_sem] max2_int min2_int max_two min_two max_three min_three max_four min_four
set_option linter.unusedVariables false
set_option linter.unusedSimpArgs false
end Go.Proofs.Ytcgdnfaclbnflaa.P

namespace Go.Proofs.Ytcgdnfaclbnflaa.P
open Go.RowKit Go.Proofs.YtcgdnfaclbnflaaW.PrintWords Go.Proofs.YtcgdnfaclbnflaaW.PrintLast Go.Proofs.YtcgdnfaclbnflaaW.PrintMore
attribute [local go_sem] max2_int min2_int max_two min_two max_three min_three max_four min_four
set_option linter.unusedVariables false
set_option linter.unusedSimpArgs false
end Go.Proofs.Ytcgdnfaclbnflaa.P

namespace Go.Proofs.Ytcgdnfaclbnflaa.C
open Go.RowKit Go.Proofs.Ytcgdnfaclbnflaa.P Go.Proofs.Ytcgdnfaclbnflaa.G Go.Proofs.YtcgdnfaclbnflaaW.PrintWords
theorem dApp (s : List Int) (p z : Int) (h : At s p) : ∃ a x p' z', spec_l12DrawApp.f s p z = some (a, x, p', z') ∧ At s p' := by
  unfold spec_l12DrawApp.f
  obtain ⟨o, p1, z1, e1, a1⟩ := dOnce s p z 4 h
  rw [e1, Option.bind_some]
  cases o with
  | true =>
    obtain ⟨v, p2, z2, e2, a2, _⟩ := dBelow s p1 z1 20 a1
    rw [if_pos rfl, e2, Option.bind_some]; exact ⟨_, _, _, _, rfl, a2⟩
  | false =>
    obtain ⟨v, p2, z2, e2, a2, _⟩ := dBelow s p1 z1 90 a1
    rw [if_neg (by simp), e2, Option.bind_some]
    obtain ⟨o, p3, z3, e3, a3⟩ := dOnce s p2 z2 12 a2
    rw [e3, Option.bind_some]
    cases o with
    | true =>
      obtain ⟨v, p4, z4, e4, a4, _⟩ := dPick s p3 z3 [1000000000000, 1000000000001, (-1000000000000), (-1000000000001)] a3 (by simp) (by simp)
      rw [if_pos rfl, e4, Option.bind_some]; exact ⟨_, _, _, _, rfl, a4⟩
    | false => rw [if_neg (by simp)]; exact ⟨_, _, _, _, rfl, a3⟩
theorem dAppRead (s : List Int) (hs : s.length ≤ 1048576) (k : Nat) (hk : 5000 ≤ k) : ∃ h x kn a b, spec_DrawAppRead.f k s = some (h, x, kn, a, b) := by
  unfold spec_DrawAppRead.f
  obtain ⟨z0, e0, a0⟩ := dNew s hs k (by omega)
  rw [e0, Option.bind_some]
  obtain ⟨a, x, p1, z1, e1, a1⟩ := dApp s 0 z0 a0
  rw [e1, Option.bind_some]
  obtain ⟨o, p2, z2, e2, a2⟩ := dOnce s p1 z1 4 a1
  rw [e2, Option.bind_some]
  dsimp only
  have : ∃ u v p' z', spec_l12DrawNow.f s p2 z2 = some (u, v, p', z') := by
    unfold spec_l12DrawNow.f
    obtain ⟨u, p3, z3, e3, a3, _⟩ := dBelow s p2 z2 90 a2
    rw [e3, Option.bind_some]
    obtain ⟨o2, p4, z4, e4, a4⟩ := dOnce s p3 z3 15 a3
    rw [e4, Option.bind_some]
    cases o2 with
    | true =>
      obtain ⟨x, y, p6, z6, e6, a6⟩ := dIval1 s p4 z4 a4
      rw [if_pos rfl, e6, Option.bind_some]; exact ⟨_, _, _, _, rfl⟩
    | false =>
      obtain ⟨v, p5, z5, e5, a5, _⟩ := dBelow s p4 z4 30 a4
      rw [if_neg (by simp), e5, Option.bind_some]; exact ⟨_, _, _, _, rfl⟩
  obtain ⟨u, v, p', z', e3⟩ := this
  rw [e3, Option.bind_some]
  exact ⟨_, _, _, _, _, rfl⟩
end Go.Proofs.Ytcgdnfaclbnflaa.C
namespace Go.Proofs.Ytcgdnfaclbnflaa.V
open Go.RowKit Go.Proofs.Ytcgdnfaclbnflaa.P Go.Proofs.Ytcgdnfaclbnflaa.C Go.Proofs.Ytcgdnfaclbnflaa.G Go.Proofs.YtcgdnfaclbnflaaW.PrintWords
theorem iHolds (a b t : Int) : impl_Holds.f a b t = some (ivalOk a b && decide (a ≤ t ∧ t ≤ b)) := by
  unfold impl_Holds.f
  rw [iIvalOk, Option.bind_some]
  cases ivalOk a b with
  | false => rw [if_neg (by decide), Bool.false_and]
  | true => rw [if_pos rfl, in_, Option.bind_some, Bool.true_and]
theorem oneJ1 (x : Int) (hx : -1000000000000 ≤ x ∧ x ≤ 1000000000000) (k : Nat) (hk : 100 ≤ k) : laws_FnReadOne.j1 k x false = some true := by
  obtain ⟨k, rfl⟩ : ∃ j, k = j + 10 := ⟨k - 10, by omega⟩
  simp only [laws_FnReadOne.j1]
  rw [if_neg (by decide), Option.bind_some, wrap_id (x := x - 1) (by omega) (by omega)]
  by_cases h : x - 1 < -1000000000000
  · rw [if_pos h]
  rw [if_neg h]
  have v1 : ivalOk x x = true := by rw [ivalOk_iff]; omega
  have v2 : ivalOk (x - 1) x = true := by rw [ivalOk_iff]; omega
  have w1 : wrap64 (1 : Int) = 1 := wrap_id (by omega) (by omega)
  have w2 : wrap64 (2 : Int) = 2 := wrap_id (by omega) (by omega)
  have good : impl_ReadsOk.f (k + 9) [(⟨true, ⟨x, x⟩⟩ : Lk), ⟨true, ⟨x - 1, x⟩⟩] [(⟨x, false, 0⟩ : Rg), ⟨x, false, 0⟩] = some true := by
    unfold impl_ReadsOk.f
    rw [if_neg (by simp)]
    simp only [List.length_cons, List.length_nil, impl_ReadsOk.j0, impl_ReadsOk.l0, impl_ReadsOk.j2, iIvalOk, iHolds, Option.bind_some]
    simp [rd_T83, rd_T88, v1, v2, w1, w2]
    try omega
  have bad : impl_ReadsOk.f (k + 9) [(⟨true, ⟨x, x⟩⟩ : Lk), ⟨true, ⟨x - 1, x⟩⟩] [(⟨x, false, 0⟩ : Rg), ⟨x - 1, false, 0⟩] = some false := by
    unfold impl_ReadsOk.f
    rw [if_neg (by simp)]
    simp only [List.length_cons, List.length_nil, impl_ReadsOk.j0, impl_ReadsOk.l0, impl_ReadsOk.j2, iIvalOk, iHolds, Option.bind_some]
    simp [rd_T83, rd_T88, v1, v2, w1, w2]
    try omega
  rw [good, Option.bind_some, if_pos rfl, bad]; rfl
theorem FnReadOne : ∀ (l0 : List Int), (l0.length ≤ 9223372036854775807 ∧ ∀ y ∈ l0, (Lit.int .u8 y).wf = true) → ∃ k, laws_FnReadOne.f k l0 = some true := by
  intro s ⟨hs, hb⟩
  refine ⟨2000000, ?_⟩
  unfold laws_FnReadOne.f
  have hB : laws_big.f s = some (decide ((s.length : Int) > 1048576)) := rfl
  rw [hB, Option.bind_some]
  by_cases hbig : (s.length : Int) > 1048576
  · rw [decide_eq_true hbig, if_pos rfl]
  rw [decide_eq_false hbig, if_neg (by decide)]
  obtain ⟨h, x, kn, a, b, e⟩ := dAppRead s (by omega) 2000000 (by omega)
  rw [e, Option.bind_some]
  simp only
  rw [iAppRead _ _ _ _ _ _ (by omega), Option.bind_some, sAppRead _ _ _ _ _ _ (by omega), Option.bind_some, if_pos rfl]
  cases hok : (appOk h x && (!kn || ivalOk a b)) with
  | false =>
    have : appRead h x kn a b = (false, 0, 0, false, 1) := by unfold appRead; rw [hok]; rfl
    rw [this]; rfl
  | true =>
    rw [Bool.and_eq_true] at hok
    have hv : kn = true → ivalOk a b = true := fun hk => by rw [hk] at hok; simpa using hok.2
    have ho' := hok.1
    rw [appOk_iff] at ho'
    rcases read_facts hok.1 hv with ⟨g1, g2, g3⟩ | ⟨v, c, g3, g4, g5, g6⟩
    · rw [g3]; rfl
    · rw [g3]
      simp only
      rw [if_pos trivial, if_pos trivial, if_pos trivial]
      rw [appOk_iff] at g4
      have hj1 := fun k hk => oneJ1 v g4.1 k hk
      have hj0 : laws_FnReadOne.j0 2000000 kn v c false h x a b = some true := by
        rw [show (2000000 : Nat) = 1999999 + 1 by omega]
        simp only [laws_FnReadOne.j0]
        rw [if_neg (by decide)]
        cases kn with
        | false => rw [if_neg (by decide)]; exact hj1 _ (by omega)
        | true =>
          have hv := hv rfl
          have hv' := hv
          rw [ivalOk_iff] at hv'
          have hlag : impl_AppLag.f h x a b = some (if h = true then mx 0 (x - b) else 0) := by
            unfold impl_AppLag.f
            rw [iAppOk, hok.1, Option.bind_some, if_pos rfl]
            cases h with
            | false => rw [if_neg (by decide), if_neg (by decide)]
            | true => rw [if_pos rfl, if_pos rfl, iIvalOk, hv, Option.bind_some, if_pos rfl, wrap_id (by omega) (by omega)]
          rw [if_pos rfl, hlag, Option.bind_some]
          rcases g6 with ⟨q1, q2, q3, q4⟩ | ⟨q1, q2, q3, q4, q5⟩ | ⟨q1, q2, q3, q4, q5⟩
          · cases q1
          · have : decide (mx 0 (x - b) > 0) = true := by rw [decide_eq_true_iff]; unfold mx; split <;> omega
            rw [q3, if_pos rfl, this, q2, if_neg (by decide), if_pos rfl]; exact hj1 _ (by omega)
          · have : decide ((if h = true then mx 0 (x - b) else 0) > 0) = false := by
              rw [decide_eq_false_iff_not]
              cases h with
              | false => simp
              | true => rw [if_pos rfl]; unfold mx; have : ¬ x > b := fun c => q5 ⟨rfl, c⟩; split <;> omega
            rw [this, q2, if_neg (by decide), if_neg (by decide), iHolds, hv, Option.bind_some, decide_eq_true ⟨q3, q4⟩]
            exact hj1 _ (by omega)
      have hne : c = true → v = x := fun hc => by
        rcases g6 with ⟨_, _, _, q⟩ | ⟨_, _, _, q, _⟩ | ⟨_, q, _⟩
        · exact q
        · exact q
        · rw [hc] at q; cases q
      cases hh : h with
      | false =>
        rw [if_neg (by decide)]
        cases hc : c with
        | false => rw [if_neg (by decide)]; rw [hh, hc] at hj0; exact hj0
        | true =>
          rw [if_pos rfl]
          have : (v != x) = false := by rw [bne_eq_false_iff_eq]; exact hne hc
          rw [this]; rw [hh, hc] at hj0; exact hj0
      | true =>
        rw [if_pos rfl, if_neg (by have := g5 hh; omega)]
        cases hc : c with
        | false => rw [if_neg (by decide)]; rw [hh, hc] at hj0; exact hj0
        | true =>
          rw [if_pos rfl]
          have : (v != x) = false := by rw [bne_eq_false_iff_eq]; exact hne hc
          rw [this]; rw [hh, hc] at hj0; exact hj0
end Go.Proofs.Ytcgdnfaclbnflaa.V
namespace Go.Proofs.Ytcgdnfaclbnflaa.Args
open Go.ChangeShapes Go.WideShapes Go.Deep Go.Proofs.YtcgdnfaclbnflaaW.PrintWords
def Opens (P : Program) (t : TypeId) {α : Type} (d : Kd α) (B : α → Prop) : Prop :=
  ∀ {H : Type} {enc : TypeId × Value → H} {w : World} {base : Nat} {spare : Nat → Bool} {held : Bool} {fuel : Nat} {cs : List Value} {x : DataW H × List MemPlace},
    DataW.trod enc P w base spare held fuel t cs = some x → ∃ a, d.K w a cs ∧ B a
theorem open_row {H : Type} {enc : TypeId × Value → H} {P : Program} {w : World} {base : Nat} {spare : Nat → Bool} {held : Bool} {fuel : Nat} {t e : TypeId} {c : Value} {x : DataW H × List MemPlace} {α : Type} {d : Kd α} {B : α → Prop} (z : α)
    (ht : P.underlying t = some (.slice e)) (hsz : P.cellsOf e = d.sz) (he : Opens P e d B) (h : DataW.trod enc P w base spare held fuel t [c] = some x) :
    ∃ A cap l, c = .slice A l.length cap ∧ Kd.C d w A l.length l ∧ l.length ≤ cap ∧ l.length ≤ 9223372036854775807 ∧ ∀ y ∈ l, B y := by
  haveI : Inhabited α := ⟨z⟩
  rcases open_slice ht h with ⟨hc, _⟩ | ⟨a, len, cap, m, n, D, Pl, hc, _, hl, hm, hmm, _, hx⟩
  · obtain rfl := List.head_eq_of_cons_eq hc
    exact ⟨none, 0, [], rfl, Kd.C_nil _ _, Nat.le_refl _, by simp, fun y hy => by cases hy⟩
  · obtain rfl := List.head_eq_of_cons_eq hc
    have hlm : len ≤ m := by rw [hmm]; split <;> omega
    obtain ⟨f, hf⟩ := choose_lt (α := α) (n := len) (p := fun i y => (∃ c', c'.length = d.sz ∧ d.K w y c' ∧ ∀ k u, c'[k]? = some u → w.cell? (a.add (i * d.sz + k)) = some u) ∧ B y) (fun i hi => by
      obtain ⟨cs', h1, h2⟩ := hx i (by omega)
      obtain ⟨y, hk, hb⟩ := he h2
      refine ⟨y, ⟨cs', d.K_len hk, hk, fun k u hu => ?_⟩, hb⟩
      obtain ⟨_, hlen, hcell⟩ := World.cells?_some h1
      have hk2 : k < cs'.length := (List.getElem?_eq_some_iff.1 hu).1
      have := hcell k (by omega)
      rw [hsz, Addr.add_add] at this
      rw [this, hu])
    have hmax : len ≤ 9223372036854775807 := by unfold maxLen at hm; omega
    refine ⟨some a, cap, (List.range len).map f, by simp, ⟨by simp, by simpa using hmax, fun _ => ⟨a, rfl, fun j p hj => ?_⟩⟩, by simpa using hl, by simpa using hmax, fun y hy => ?_⟩
    · have hj2 : j < len := by simpa using (List.getElem?_eq_some_iff.1 hj).1
      rw [List.getElem?_map, List.getElem?_range hj2] at hj
      obtain rfl := Option.some.inj hj
      exact (hf j hj2).1
    · obtain ⟨j, hj, rfl⟩ := List.mem_map.1 hy
      exact (hf j (List.mem_range.1 hj)).2
theorem opens_int {P : Program} {t : TypeId} {k : IntKind} (ht : P.underlying t = some (.int k)) : Opens P t (Kd.int k) (fun x => (Lit.int k x).wf = true) := by
  intro H enc w base spare held fuel cs x h
  obtain ⟨n, rfl, _, hw⟩ := DataW.trod_int ht h
  exact ⟨n, rfl, hw⟩
end Go.Proofs.Ytcgdnfaclbnflaa.Args
