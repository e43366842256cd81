/- Texts of the seat's proofs, part 6: functions of the program told as plain functions, with their contracts, and what is shown of them. No condition. -/
import Derived.Test.YtpjahhljpoeaeaaUKFEOO
import Derived.Test.YtpjahhljpoeaeaaKFEOO1
import Derived.Test.YtpjahhljpoeaeaaKFEOO5
import Derived.Test.YtpjahhljpoeaeaaKFEOO4
import Derived.Test.YtpjahhljpoeaeaaKFEOO2
import Derived.Test.YtpjahhljpoeaeaaKFEOO3
import Derived.Deep.Slices
import Derived.ProofKit
import Derived.OpenShut
set_option linter.unusedVariables false
set_option linter.unusedSimpArgs false
namespace Go.Proofs.Ytpjahhljpoeaeaa.P
open Go.RowKit Go.Proofs.YtpjahhljpoeaeaaW.PrintWords Go.Proofs.YtpjahhljpoeaeaaW.PrintLast Go.Proofs.YtpjahhljpoeaeaaW.PrintMore
attribute [local go_sem] max2_int min2_int max_two min_two max_three min_three max_four min_four
set_option linter.unusedVariables false
set_option linter.unusedSimpArgs false
end Go.Proofs.Ytpjahhljpoeaeaa.P

namespace Go.Proofs.Ytpjahhljpoeaeaa.P
open Go.RowKit Go.Proofs.YtpjahhljpoeaeaaW.PrintWords Go.Proofs.YtpjahhljpoeaeaaW.PrintLast Go.Proofs.YtpjahhljpoeaeaaW.PrintMore
attribute [local go_sem] max2_int min2_int max_two min_two max_three min_three max_four min_four
set_option linter.unusedVariables false
set_option linter.unusedSimpArgs false
end Go.Proofs.Ytpjahhljpoeaeaa.P

namespace Go.Proofs.Ytpjahhljpoeaeaa.P
open Go.RowKit Go.Proofs.YtpjahhljpoeaeaaW.PrintWords Go.Proofs.YtpjahhljpoeaeaaW.PrintLast Go.Proofs.YtpjahhljpoeaeaaW.PrintMore
attribute [local go_sem] max2_int min2_int max_two min_two max_three min_three max_four min_four
set_option linter.unusedVariables false
set_option linter.unusedSimpArgs false
end Go.Proofs.Ytpjahhljpoeaeaa.P

set_option linter.unusedVariables false
set_option linter.unusedSimpArgs false
namespace Go.Proofs.Ytpjahhljpoeaeaa.C
open Go.RowKit Go.Proofs.Ytpjahhljpoeaeaa.P Go.Proofs.Ytpjahhljpoeaeaa.G Go.Proofs.YtpjahhljpoeaeaaW.PrintWords
end Go.Proofs.Ytpjahhljpoeaeaa.C

namespace Go.Proofs.Ytpjahhljpoeaeaa.P
open Go.RowKit Go.Proofs.YtpjahhljpoeaeaaW.PrintWords Go.Proofs.YtpjahhljpoeaeaaW.PrintLast Go.Proofs.YtpjahhljpoeaeaaW.PrintMore
attribute [local go_sem] max2_int min2_int max_two min_two max_three min_three max_four min_four
set_option linter.unusedVariables false
set_option linter.unusedSimpArgs false
end Go.Proofs.Ytpjahhljpoeaeaa.P

namespace Go.Proofs.Ytpjahhljpoeaeaa.P
open Go.RowKit Go.Proofs.YtpjahhljpoeaeaaW.PrintWords Go.Proofs.YtpjahhljpoeaeaaW.PrintLast Go.Proofs.YtpjahhljpoeaeaaW.PrintMore
attribute [local go_sem] max2_int min2_int max_two min_two max_three min_three max_four min_four
set_option linter.unusedVariables false
set_option linter.unusedSimpArgs false
end Go.Proofs.Ytpjahhljpoeaeaa.P

namespace Go.Proofs.Ytpjahhljpoeaeaa.C
open Go.RowKit Go.Proofs.Ytpjahhljpoeaeaa.P Go.Proofs.Ytpjahhljpoeaeaa.G Go.Proofs.YtpjahhljpoeaeaaW.PrintWords
def owns (l : List Sl) : List Int := l.map fun x => x.f0
theorem mem_owns {l : List Sl} {x : Int} : x ∈ owns l ↔ ∃ i, ∃ hi : i < l.length, l[i].f0 = x := by
  unfold owns
  rw [List.mem_map]
  constructor
  · rintro ⟨y, hy, rfl⟩
    obtain ⟨i, hi, rfl⟩ := List.getElem_of_mem hy
    exact ⟨i, hi, rfl⟩
  · rintro ⟨i, hi, rfl⟩
    exact ⟨_, List.getElem_mem hi, rfl⟩
def ownersOf (st gap : Int) (l : List Sl) : List Int := if planOk st gap l = true then below8 (fun n => decide (n ∈ owns l)) else []
theorem ownersOf_len (st gap : Int) (l : List Sl) : (ownersOf st gap l).length ≤ 8 := by
  unfold ownersOf; split
  · exact below8_len _
  · simp
theorem iOwnersOf (st gap : Int) (l : List Sl) (hl : l.length ≤ 1048576) (k : Nat) (hk : 1050000 ≤ k) : impl_OwnersOf.f k st gap l = some (ownersOf st gap l) := by
  unfold impl_OwnersOf.f ownersOf
  rw [iPlanOk st gap l hl k (by omega), Option.bind_some]
  cases h : planOk st gap l with
  | false => rw [if_neg (by decide), if_neg (by decide)]
  | true =>
    rw [if_pos rfl, if_pos rfl]
    rw [planOk_iff] at h
    have hsc := fun k hk => sort_compact (owns l) (by simp [owns]; omega) (fun x hx => by
      obtain ⟨i, hi, rfl⟩ := mem_owns.1 hx
      have := slotsOk_get h.2.2.2 i hi
      omega) k hk
    have := track_loop0 (n := l.length) (c := 1000) (σ := List Int) (F := fun i => (l.take i).map fun x => x.f0) (L := fun k s i => impl_OwnersOf.l0 k s l (l.length : Int) i) (r := below8 fun n => decide (n ∈ owns l)) (fun k i hi hk => ?_) (fun k hk => ?_) k (by omega)
    · simpa using this
    · simp only [impl_OwnersOf.l0]
      have hlen : ((l.take i).map fun x => x.f0).length = i := by simp; omega
      rw [if_pos (by omega), if_pos (by omega), if_pos (by omega), if_pos (by omega), wrap_succ hi (by omega), rdSl l i hi, List.take_succ_eq_append_getElem hi, List.map_append]
      rfl
    · simp only [impl_OwnersOf.l0]
      rw [if_neg (by omega), List.take_length]
      exact hsc k (by omega)
theorem sOwnIn {l : List Sl} (hl : l.length ≤ 12) (st gap n : Int) (out : List Int) (ho : out.length ≤ 8) (r : Option (List Int)) (c : Nat) : ∀ d i k (fd : Bool), i + d = l.length → d + c < k → (∀ k', c ≤ k' → spec_OwnersOf.l0 k' (if (fd || (l.drop i).any (fun x => x.f0 == n)) = true then out ++ [n] else out) (wrap64 (n + 1)) st gap l = r) →
    spec_OwnersOf.l1 k out n fd (i : Int) st gap l = r := by
  intro d
  induction d with
  | zero =>
    intro i k fd hi hk h
    obtain ⟨k, rfl⟩ : ∃ j, k = j + 1 := ⟨k - 1, by omega⟩
    simp only [spec_OwnersOf.l1]
    have h1 := h k (by omega)
    rw [List.drop_of_length_le (by omega), List.any_nil, Bool.or_false] at h1
    rw [if_neg (by omega)]
    cases fd with
    | false => rw [if_neg (by decide)]; rw [if_neg (by decide)] at h1; exact h1
    | true => rw [if_pos rfl, if_pos (by omega)]; rw [if_pos rfl] at h1; exact h1
  | succ d ih =>
    intro i k fd hi hk h
    obtain ⟨k, rfl⟩ : ∃ j, k = j + 1 := ⟨k - 1, by omega⟩
    have hil : i < l.length := by omega
    simp only [spec_OwnersOf.l1]
    rw [if_pos (by omega), wrap_succ hil (by omega)]
    rw [List.drop_eq_getElem_cons hil, List.any_cons] at h
    cases fd with
    | true =>
      rw [if_pos rfl]
      exact ih (i + 1) k true (by omega) (by omega) (fun k' hk' => by have := h k' hk'; simpa using this)
    | false =>
      rw [if_neg (by decide), if_pos (by omega), rdSl l i hil]
      exact ih (i + 1) k _ (by omega) (by omega) (fun k' hk' => by have := h k' hk'; simpa using this)
theorem sOwnOut {st gap : Int} {l : List Sl} (h : planOk st gap l = true) : ∀ d n k (out : List Int), n + d = 8 → out.length ≤ n → 40 * d + 40 < k →
    spec_OwnersOf.l0 k out (n : Int) st gap l = some (out ++ ((List.range' n d).map fun (i : Nat) => (i : Int)).filter fun x => decide (x ∈ owns l)) := by
  have hp := h
  rw [planOk_iff] at hp
  intro d
  induction d with
  | zero =>
    intro n k out hn ho hk
    obtain ⟨k, rfl⟩ : ∃ j, k = j + 2 := ⟨k - 2, by omega⟩
    simp only [spec_OwnersOf.l0, spec_OwnersOf.j1]
    rw [if_neg (by omega), if_neg (by decide)]
    simp
  | succ d ih =>
    intro n k out hn ho hk
    obtain ⟨k, rfl⟩ : ∃ j, k = j + 2 := ⟨k - 2, by omega⟩
    simp only [spec_OwnersOf.l0]
    rw [if_pos (by omega), sPlanOk st gap l (by omega) _ (by omega), h, Option.bind_some]
    simp only [spec_OwnersOf.j1]
    rw [if_pos (by trivial)]
    refine sOwnIn (by omega) st gap (n : Int) out (by omega) _ (40 * d + 41) l.length 0 k false (by omega) (by omega) (fun k' hk' => ?_)
    have hw : wrap64 ((n : Int) + 1) = ((n + 1 : Nat) : Int) := by rw [wrap_id (by omega) (by omega)]; omega
    have hany : (false || (l.drop 0).any (fun x => x.f0 == (n : Int))) = decide ((n : Int) ∈ owns l) := by
      rw [Bool.false_or, List.drop_zero, Bool.eq_iff_iff, List.any_eq_true, decide_eq_true_iff]
      unfold owns
      rw [List.mem_map]
      constructor
      · rintro ⟨x, h1, h2⟩; exact ⟨x, h1, by simpa using h2⟩
      · rintro ⟨x, h1, h2⟩; exact ⟨x, h1, by simpa using h2⟩
    rw [hw, hany, List.range'_succ, List.map_cons, List.filter_cons]
    cases hc : decide ((n : Int) ∈ owns l) with
    | true =>
      rw [if_pos rfl, if_pos rfl, ih (n + 1) k' _ (by omega) (by simp; omega) (by omega)]
      simp
    | false =>
      rw [if_neg (by decide), if_neg (by decide), ih (n + 1) k' _ (by omega) (by omega) (by omega)]
theorem sOwnersOf (st gap : Int) (l : List Sl) (hl : l.length ≤ 1048576) (k : Nat) (hk : 1050000 ≤ k) : spec_OwnersOf.f k st gap l = some (ownersOf st gap l) := by
  unfold spec_OwnersOf.f ownersOf
  cases h : planOk st gap l with
  | false =>
    rw [if_neg (by decide)]
    obtain ⟨k, rfl⟩ : ∃ j, k = j + 2 := ⟨k - 2, by omega⟩
    simp only [spec_OwnersOf.l0]
    rw [if_pos (by omega), sPlanOk st gap l hl _ (by omega), h, Option.bind_some]
    simp only [spec_OwnersOf.j1]
    rw [if_neg (by decide)]
  | true =>
    rw [if_pos rfl]
    have := sOwnOut h 8 0 k [] (by omega) (by simp) (by omega)
    rw [List.nil_append] at this
    unfold below8
    rw [List.range_eq_range']
    exact this
theorem markSlotS (l : List Sl) (hl : l.length ≤ 2000000) (a : Int) (ha : 0 ≤ a ∧ a ≤ 1000000000) (k : Nat) (hk : l.length < k) : laws_markSlotS.f k l a = some (a + 2 * l.length, (List.range l.length).map fun (i : Nat) => (⟨a + 2 * i, a + 2 * i + 1⟩ : Sl)) := by
  unfold laws_markSlotS.f
  have := mark_loop0 (l := l) (f := fun i => (⟨a + 2 * i, a + 2 * i + 1⟩ : Sl)) (w := fun i => a + 2 * i) (c := 0) (L := fun k acc w i => laws_markSlotS.l0 k acc w i) (fin := fun acc => (a + 2 * l.length, acc)) (fun k i acc hi hacc _ => ?_) (fun k acc hacc => ?_) k (by omega)
  · simp only [Int.natCast_zero, Int.mul_zero, Int.add_zero] at this; exact this
  · simp only [laws_markSlotS.l0, Option.bind_some]
    rw [if_pos (by omega), if_pos (by omega), wrap_succ hi (by omega), Int.toNat_natCast, rdSl (acc.set i _) i (by simp; omega), List.getElem_set_self, List.set_set, wrap_id (x := a + 2 * (i : Int) + 1) (by omega) (by omega), wrap_id (x := a + 2 * (i : Int) + 1 + 1) (by omega) (by omega)]
    congr 1; omega
  · simp only [laws_markSlotS.l0]
    rw [if_neg (by omega)]
theorem markPlan (x y : Int) (l : List Sl) (hl : l.length ≤ 2000000) (a : Int) (ha : 0 ≤ a ∧ a ≤ 1000000000) (k : Nat) (hk : l.length < k) : laws_markPlan.f k x y l a = some (a + 2 * l.length, (List.range l.length).map fun (i : Nat) => (⟨a + 2 * i, a + 2 * i + 1⟩ : Sl)) := by
  unfold laws_markPlan.f; rw [markSlotS l hl a ha k hk]; rfl
end Go.Proofs.Ytpjahhljpoeaeaa.C
namespace Go.Proofs.Ytpjahhljpoeaeaa.V
open Go.RowKit Go.Proofs.Ytpjahhljpoeaeaa.P Go.Proofs.Ytpjahhljpoeaeaa.C Go.Proofs.Ytpjahhljpoeaeaa.G
theorem FnExactOwnersOf : ∀ (a0_0 : Int) (a0_1 : Int) (l0_2 : List (S113)), (Lit.int .i64 a0_0).wf = true → (Lit.int .i64 a0_1).wf = true → (l0_2.length ≤ 9223372036854775807 ∧ ∀ y ∈ l0_2, ((Lit.int .i64 y.f0).wf = true ∧ (Lit.int .i64 y.f1).wf = true)) → ∃ k, laws_FnExactOwnersOf.f k a0_0 a0_1 l0_2 = some true := by
  intro st gap l _ _ ⟨hl, _⟩
  refine ⟨2200100, ?_⟩
  unfold laws_FnExactOwnersOf.f
  rcases szPlan st gap l hl 1048576 (by omega) with h | ⟨h, hs⟩
  · rw [h]; simp
  rw [h, Option.bind_some, if_neg (by omega)]
  have hm : (l.map toSl).length = l.length := by simp
  have hu := ownersOf_len st gap (l.map toSl)
  have hj : ∀ k, 2200000 ≤ k → laws_FnExactOwnersOf.j0 k (ownersOf st gap (l.map toSl)) (ownersOf st gap (l.map toSl)) false st gap l = some true := by
    intro k hk
    obtain ⟨k, rfl⟩ : ∃ j, k = j + 1 := ⟨k - 1, by omega⟩
    simp only [laws_FnExactOwnersOf.j0]
    rw [if_neg (by decide), markIntS _ (by omega) 1 (by omega) k (by omega)]
    simp only [Option.bind_some]
    rw [heldIntS _ (by omega) 1 (by omega) k (by omega)]
    simp only [Option.bind_some]
    rw [if_neg (by omega), if_pos trivial, toPlan st gap l (by omega) k (by omega)]
    simp only [Option.bind_some]
    rw [iOwnersOf st gap _ (by omega) k (by omega)]
    simp only [Option.bind_some]
    rw [eqIntS _ (by omega) k (by omega)]
    simp only [Option.bind_some]
    rw [if_pos (by trivial), if_neg (by omega), if_pos (by trivial)]
  rw [toPlan st gap l (by omega) _ (by omega)]
  simp only [Option.bind_some]
  rw [sOwnersOf st gap _ (by omega) _ (by omega), iOwnersOf st gap _ (by omega) _ (by omega)]
  simp only [Option.bind_some]
  rw [eqIntS _ (by omega) _ (by omega), eqPlan _ _ _ (by omega) _ (by omega)]
  simp only [Option.bind_some, if_true]
  rw [markPlan _ _ _ (by omega) 1 (by omega) _ (by omega)]
  simp only [Option.bind_some, Bool.not_true]
  rw [if_neg (by omega)]
  exact hj _ (by omega)
end Go.Proofs.Ytpjahhljpoeaeaa.V
namespace Go.Proofs.Ytpjahhljpoeaeaa.Args
open Go.ChangeShapes Go.WideShapes Go.Deep Go.Proofs.YtpjahhljpoeaeaaW.PrintWords
theorem trod_field {H : Type} {enc : TypeId × Value → H} {P : Program} {w : World} {base : Nat} {spare : Nat → Bool} {held : Bool} {fuel : Nat} {t : TypeId} {cs : List Value} {x : DataW H × List MemPlace} {fs : Array Field}
    (ht : P.underlying t = some (.struct fs)) (h : DataW.trod enc P w base spare held fuel t cs = some x) :
    cs.length = P.cellsOf t ∧ ∀ (i : Nat) (f : Field), fs[i]? = some f → ∃ n y, DataW.trod enc P w base spare held n f.type ((cs.drop f.offset).take (P.cellsOf f.type)) = some y := by
  obtain ⟨xs, n, rfl, _, hl, hx, hf⟩ := DataW.trod_struct ht h
  refine ⟨hl, fun i f hi => ⟨n, ?_⟩⟩
  have hi2 : i < fs.size := by
    rcases Nat.lt_or_ge i fs.size with h' | h'
    · exact h'
    · rw [Array.getElem?_eq_none h'] at hi; cases hi
  obtain ⟨y, hy⟩ : ∃ y, xs[i]? = some y := ⟨_, List.getElem?_eq_getElem (by omega)⟩
  exact ⟨y, by rw [hf i f hi, hy]⟩
theorem trod_at {H : Type} {enc : TypeId × Value → H} {P : Program} {w : World} {base : Nat} {spare : Nat → Bool} {held : Bool} {fuel : Nat} {t : TypeId} {cs : List Value} {x : DataW H × List MemPlace} {fs : Array Field}
    (ht : P.underlying t = some (.struct fs)) (h : DataW.trod enc P w base spare held fuel t cs = some x) (i : Nat) (ft : TypeId) (off sz : Nat) (cs' : List Value)
    (hf : ∃ f, fs[i]? = some f ∧ f.type = ft ∧ f.offset = off) (hw : P.cellsOf ft = sz) (hc : (cs.drop off).take sz = cs') : ∃ n y, DataW.trod enc P w base spare held n ft cs' = some y := by
  obtain ⟨f, h1, rfl, rfl⟩ := hf
  subst hw hc
  exact (trod_field ht h).2 i f h1
def Opens (P : Program) (t : TypeId) {α : Type} (d : Kd α) (B : α → Prop) : Prop :=
  ∀ {H : Type} {enc : TypeId × Value → H} {w : World} {base : Nat} {spare : Nat → Bool} {held : Bool} {fuel : Nat} {cs : List Value} {x : DataW H × List MemPlace},
    DataW.trod enc P w base spare held fuel t cs = some x → ∃ a, d.K w a cs ∧ B a
theorem open_row {H : Type} {enc : TypeId × Value → H} {P : Program} {w : World} {base : Nat} {spare : Nat → Bool} {held : Bool} {fuel : Nat} {t e : TypeId} {c : Value} {x : DataW H × List MemPlace} {α : Type} {d : Kd α} {B : α → Prop} (z : α)
    (ht : P.underlying t = some (.slice e)) (hsz : P.cellsOf e = d.sz) (he : Opens P e d B) (h : DataW.trod enc P w base spare held fuel t [c] = some x) :
    ∃ A cap l, c = .slice A l.length cap ∧ Kd.C d w A l.length l ∧ l.length ≤ cap ∧ l.length ≤ 9223372036854775807 ∧ ∀ y ∈ l, B y := by
  haveI : Inhabited α := ⟨z⟩
  rcases open_slice ht h with ⟨hc, _⟩ | ⟨a, len, cap, m, n, D, Pl, hc, _, hl, hm, hmm, _, hx⟩
  · obtain rfl := List.head_eq_of_cons_eq hc
    exact ⟨none, 0, [], rfl, Kd.C_nil _ _, Nat.le_refl _, by simp, fun y hy => by cases hy⟩
  · obtain rfl := List.head_eq_of_cons_eq hc
    have hlm : len ≤ m := by rw [hmm]; split <;> omega
    obtain ⟨f, hf⟩ := choose_lt (α := α) (n := len) (p := fun i y => (∃ c', c'.length = d.sz ∧ d.K w y c' ∧ ∀ k u, c'[k]? = some u → w.cell? (a.add (i * d.sz + k)) = some u) ∧ B y) (fun i hi => by
      obtain ⟨cs', h1, h2⟩ := hx i (by omega)
      obtain ⟨y, hk, hb⟩ := he h2
      refine ⟨y, ⟨cs', d.K_len hk, hk, fun k u hu => ?_⟩, hb⟩
      obtain ⟨_, hlen, hcell⟩ := World.cells?_some h1
      have hk2 : k < cs'.length := (List.getElem?_eq_some_iff.1 hu).1
      have := hcell k (by omega)
      rw [hsz, Addr.add_add] at this
      rw [this, hu])
    have hmax : len ≤ 9223372036854775807 := by unfold maxLen at hm; omega
    refine ⟨some a, cap, (List.range len).map f, by simp, ⟨by simp, by simpa using hmax, fun _ => ⟨a, rfl, fun j p hj => ?_⟩⟩, by simpa using hl, by simpa using hmax, fun y hy => ?_⟩
    · have hj2 : j < len := by simpa using (List.getElem?_eq_some_iff.1 hj).1
      rw [List.getElem?_map, List.getElem?_range hj2] at hj
      obtain rfl := Option.some.inj hj
      exact (hf j hj2).1
    · obtain ⟨j, hj, rfl⟩ := List.mem_map.1 hy
      exact (hf j (List.mem_range.1 hj)).2
end Go.Proofs.Ytpjahhljpoeaeaa.Args
