/- How the arguments of a law are opened: out of the reading of an argument as data, the kinds' own facts (Kd.K, Kd.C), for structs and slices of structs. -/
import Derived.Test.YtihpclkpodbndaaWWords
import Derived.Deep.Slices
import Derived.ProofKit
import Derived.OpenShut
set_option linter.unusedVariables false
namespace Go.Proofs.Ytihpclkpodbndaa.Args
open Go.ChangeShapes Go.WideShapes Go.Deep Go.Proofs.YtihpclkpodbndaaW.PrintWords

theorem trod_field {H : Type} {enc : TypeId × Value → H} {P : Program} {w : World} {base : Nat} {spare : Nat → Bool} {held : Bool} {fuel : Nat} {t : TypeId} {cs : List Value} {x : DataW H × List MemPlace} {fs : Array Field}
    (ht : P.underlying t = some (.struct fs)) (h : DataW.trod enc P w base spare held fuel t cs = some x) :
    cs.length = P.cellsOf t ∧ ∀ (i : Nat) (f : Field), fs[i]? = some f → ∃ n y, DataW.trod enc P w base spare held n f.type ((cs.drop f.offset).take (P.cellsOf f.type)) = some y := by
  obtain ⟨xs, n, rfl, _, hl, hx, hf⟩ := DataW.trod_struct ht h
  refine ⟨hl, fun i f hi => ⟨n, ?_⟩⟩
  have hi2 : i < fs.size := by
    rcases Nat.lt_or_ge i fs.size with h' | h'
    · exact h'
    · rw [Array.getElem?_eq_none h'] at hi; cases hi
  obtain ⟨y, hy⟩ : ∃ y, xs[i]? = some y := ⟨_, List.getElem?_eq_getElem (by omega)⟩
  exact ⟨y, by rw [hf i f hi, hy]⟩

/-- One field, with its numbers. -/
theorem trod_at {H : Type} {enc : TypeId × Value → H} {P : Program} {w : World} {base : Nat} {spare : Nat → Bool} {held : Bool} {fuel : Nat} {t : TypeId} {cs : List Value} {x : DataW H × List MemPlace} {fs : Array Field}
    (ht : P.underlying t = some (.struct fs)) (h : DataW.trod enc P w base spare held fuel t cs = some x) (i : Nat) (ft : TypeId) (off sz : Nat) (cs' : List Value)
    (hf : ∃ f, fs[i]? = some f ∧ f.type = ft ∧ f.offset = off) (hw : P.cellsOf ft = sz) (hc : (cs.drop off).take sz = cs') : ∃ n y, DataW.trod enc P w base spare held n ft cs' = some y := by
  obtain ⟨f, h1, rfl, rfl⟩ := hf
  subst hw hc
  exact (trod_field ht h).2 i f h1

/-- A type whose cells, read as data, are of a kind, within bounds. -/
def Opens (P : Program) (t : TypeId) {α : Type} (d : Kd α) (B : α → Prop) : Prop :=
  ∀ {H : Type} {enc : TypeId × Value → H} {w : World} {base : Nat} {spare : Nat → Bool} {held : Bool} {fuel : Nat} {cs : List Value} {x : DataW H × List MemPlace},
    DataW.trod enc P w base spare held fuel t cs = some x → ∃ a, d.K w a cs ∧ B a

theorem open_row {H : Type} {enc : TypeId × Value → H} {P : Program} {w : World} {base : Nat} {spare : Nat → Bool} {held : Bool} {fuel : Nat} {t e : TypeId} {c : Value} {x : DataW H × List MemPlace} {α : Type} {d : Kd α} {B : α → Prop} (z : α)
    (ht : P.underlying t = some (.slice e)) (hsz : P.cellsOf e = d.sz) (he : Opens P e d B) (h : DataW.trod enc P w base spare held fuel t [c] = some x) :
    ∃ A cap l, c = .slice A l.length cap ∧ Kd.C d w A l.length l ∧ l.length ≤ cap ∧ l.length ≤ 9223372036854775807 ∧ ∀ y ∈ l, B y := by
  haveI : Inhabited α := ⟨z⟩
  rcases open_slice ht h with ⟨hc, _⟩ | ⟨a, len, cap, m, n, D, Pl, hc, _, hl, hm, hmm, _, hx⟩
  · obtain rfl := List.head_eq_of_cons_eq hc
    exact ⟨none, 0, [], rfl, Kd.C_nil _ _, Nat.le_refl _, by simp, fun y hy => by cases hy⟩
  · obtain rfl := List.head_eq_of_cons_eq hc
    have hlm : len ≤ m := by rw [hmm]; split <;> omega
    obtain ⟨f, hf⟩ := choose_lt (α := α) (n := len) (p := fun i y => (∃ c', c'.length = d.sz ∧ d.K w y c' ∧ ∀ k u, c'[k]? = some u → w.cell? (a.add (i * d.sz + k)) = some u) ∧ B y) (fun i hi => by
      obtain ⟨cs', h1, h2⟩ := hx i (by omega)
      obtain ⟨y, hk, hb⟩ := he h2
      refine ⟨y, ⟨cs', d.K_len hk, hk, fun k u hu => ?_⟩, hb⟩
      obtain ⟨_, hlen, hcell⟩ := World.cells?_some h1
      have hk2 : k < cs'.length := (List.getElem?_eq_some_iff.1 hu).1
      have := hcell k (by omega)
      rw [hsz, Addr.add_add] at this
      rw [this, hu])
    have hmax : len ≤ 9223372036854775807 := by unfold maxLen at hm; omega
    refine ⟨some a, cap, (List.range len).map f, by simp, ⟨by simp, by simpa using hmax, fun _ => ⟨a, rfl, fun j p hj => ?_⟩⟩, by simpa using hl, by simpa using hmax, fun y hy => ?_⟩
    · have hj2 : j < len := by simpa using (List.getElem?_eq_some_iff.1 hj).1
      rw [List.getElem?_map, List.getElem?_range hj2] at hj
      obtain rfl := Option.some.inj hj
      exact (hf j hj2).1
    · obtain ⟨j, hj, rfl⟩ := List.mem_map.1 hy
      exact (hf j (List.mem_range.1 hj)).2

theorem opens_int {P : Program} {t : TypeId} {k : IntKind} (ht : P.underlying t = some (.int k)) : Opens P t (Kd.int k) (fun x => (Lit.int k x).wf = true) := by
  intro H enc w base spare held fuel cs x h
  obtain ⟨n, rfl, _, hw⟩ := DataW.trod_int ht h
  exact ⟨n, rfl, hw⟩
theorem opens_bool {P : Program} {t : TypeId} (ht : P.underlying t = some .bool) : Opens P t Kd.bool (fun _ => True) := by
  intro H enc w base spare held fuel cs x h
  obtain ⟨n, rfl, _⟩ := DataW.trod_bool ht h
  exact ⟨n, rfl, trivial⟩
theorem opens_string {P : Program} {t : TypeId} (ht : P.underlying t = some .string) : Opens P t Kd.string (fun s => s.size ≤ 9223372036854775807) := by
  intro H enc w base spare held fuel cs x h
  obtain ⟨s, rfl, _, hs⟩ := DataW.trod_string ht h
  exact ⟨s, rfl, by unfold maxLen at hs; exact hs⟩
theorem opens_slice {P : Program} {t e : TypeId} {α : Type} {d : Kd α} {B : α → Prop} (z : α) (ht : P.underlying t = some (.slice e)) (hsz : P.cellsOf e = d.sz) (hc : P.cellsOf t = 1) (he : Opens P e d B) :
    Opens P t (Kd.slice e d) (fun l => l.length ≤ 9223372036854775807 ∧ ∀ y ∈ l, B y) := by
  intro H enc w base spare held fuel cs x h
  have h1 : ∃ c, cs = [c] := by
    rcases open_slice ht h with ⟨hc, _⟩ | ⟨a, len, cap, m, n, D, Pl, hc, _⟩
    · exact ⟨_, hc⟩
    · exact ⟨_, hc⟩
  obtain ⟨c, rfl⟩ := h1
  obtain ⟨A, cap, l, rfl, h1, h2, h3, h4⟩ := open_row z ht hsz he h
  exact ⟨l, ⟨A, cap, rfl, h2, h1⟩, h3, h4⟩
end Go.Proofs.Ytihpclkpodbndaa.Args
