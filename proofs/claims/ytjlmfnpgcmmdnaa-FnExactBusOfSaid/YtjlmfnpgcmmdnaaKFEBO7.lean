/- Texts of the seat's proofs, part 7: functions of the program told as plain functions, with their contracts, and what is shown of them. No condition. -/
import Derived.Test.YtjlmfnpgcmmdnaaUKFEBO
import Derived.Test.YtjlmfnpgcmmdnaaKFEBO1
import Derived.Test.YtjlmfnpgcmmdnaaKFEBO2
import Derived.Test.YtjlmfnpgcmmdnaaKFEBO3
import Derived.Test.YtjlmfnpgcmmdnaaKFEBO6
import Derived.Test.YtjlmfnpgcmmdnaaKFEBO4
import Derived.Deep.Slices
import Derived.ProofKit
import Derived.OpenShut
set_option linter.unusedVariables false
set_option linter.unusedSimpArgs false
namespace Go.Proofs.Ytjlmfnpgcmmdnaa.P
open Go.RowKit Go.Proofs.YtjlmfnpgcmmdnaaW.PrintWords Go.Proofs.YtjlmfnpgcmmdnaaW.PrintLast Go.Proofs.YtjlmfnpgcmmdnaaW.PrintMore
attribute [local go_sem] max2_int min2_int max_two min_two max_three min_three max_four min_four
set_option linter.unusedVariables false
set_option linter.unusedSimpArgs false
end Go.Proofs.Ytjlmfnpgcmmdnaa.P

namespace Go.Proofs.Ytjlmfnpgcmmdnaa.P
open Go.RowKit Go.Proofs.YtjlmfnpgcmmdnaaW.PrintWords Go.Proofs.YtjlmfnpgcmmdnaaW.PrintLast Go.Proofs.YtjlmfnpgcmmdnaaW.PrintMore
attribute [local go_sem] max2_int min2_int max_two min_two max_three min_three max_four min_four
set_option linter.unusedVariables false
set_option linter.unusedSimpArgs false
end Go.Proofs.Ytjlmfnpgcmmdnaa.P

namespace Go.Proofs.Ytjlmfnpgcmmdnaa.P
open Go.RowKit Go.Proofs.YtjlmfnpgcmmdnaaW.PrintWords Go.Proofs.YtjlmfnpgcmmdnaaW.PrintLast Go.Proofs.YtjlmfnpgcmmdnaaW.PrintMore
attribute [local go_sem] max2_int min2_int max_two min_two max_three min_three max_four min_four
set_option linter.unusedVariables false
set_option linter.unusedSimpArgs false
end Go.Proofs.Ytjlmfnpgcmmdnaa.P

namespace Go.Proofs.Ytjlmfnpgcmmdnaa.P
open Go.RowKit Go.Proofs.YtjlmfnpgcmmdnaaW.PrintWords Go.Proofs.YtjlmfnpgcmmdnaaW.PrintLast Go.Proofs.YtjlmfnpgcmmdnaaW.PrintMore
attribute [local go_sem] max2_int min2_int max_two min_two max_three min_three max_four min_four
set_option linter.unusedVariables false
set_option linter.unusedSimpArgs false
end Go.Proofs.Ytjlmfnpgcmmdnaa.P

namespace Go.Proofs.Ytjlmfnpgcmmdnaa.C
open Go.RowKit Go.Proofs.Ytjlmfnpgcmmdnaa.P Go.Proofs.Ytjlmfnpgcmmdnaa.G Go.Proofs.YtjlmfnpgcmmdnaaW.PrintWords
def wh (g : Nat → Bool) : Nat → List Int
  | 0 => []
  | i + 1 => if g i = true then wh g i ++ [(i : Int)] else wh g i
theorem wh_len (g : Nat → Bool) : ∀ n, (wh g n).length ≤ n := by
  intro n
  induction n with
  | zero => simp [wh]
  | succ n ih =>
    rw [wh]; split
    · rw [List.length_append, List.length_singleton]; omega
    · omega
theorem iPlaces (p : Fr → Option Bool) (g : Nat → Bool) (l : List Fr) (hl : l.length ≤ 1048576) (hp : ∀ i (hi : i < l.length), p l[i] = some (g i)) (k : Nat) (hk : l.length < k) :
    impl_places_Frame.f p k l = some (wh g l.length) := by
  unfold impl_places_Frame.f
  refine track_loop0 (n := l.length) (c := 0) (σ := List Int) (F := fun i => wh g i) (L := fun k s i => impl_places_Frame.l0 p k s l (l.length : Int) i) (r := wh g l.length) (fun k i hi hk => ?_) (fun k hk => ?_) k (by omega)
  · simp only [impl_places_Frame.l0]
    have := wh_len g i
    rw [if_pos (by omega), if_pos (by omega), if_pos (by omega), rdFr l i hi, hp i hi, Option.bind_some, wrap_succ hi (by omega), wh]
    cases g i with
    | true => rw [if_pos rfl, if_pos (by omega), if_pos rfl]
    | false => rw [if_neg (by decide), if_neg (by decide)]
  · simp only [impl_places_Frame.l0]
    rw [if_neg (by omega)]
def fromIs (l : List Fr) (n : Int) (i : Nat) : Bool := match l[i]? with
  | some x => x.f0 == n
  | none => false
theorem fromIs_eq (l : List Fr) (n : Int) (i : Nat) (hi : i < l.length) : fromIs l n i = (l[i].f0 == n) := by
  unfold fromIs; rw [List.getElem?_eq_getElem hi]
def busOf (l : List Fr) (n : Int) : List Int := if busOk l = true then wh (fromIs l n) l.length else []
theorem busOf_len (l : List Fr) (n : Int) : (busOf l n).length ≤ 60 := by
  unfold busOf; split
  · rename_i h
    have := busOk_len h
    have := wh_len (fromIs l n) l.length
    omega
  · simp
theorem iBusOf (l : List Fr) (n : Int) (hl : l.length ≤ 1048576) (k : Nat) (hk : 1050000 ≤ k) : impl_BusOf.f k l n = some (busOf l n) := by
  unfold impl_BusOf.f busOf
  rw [iBusOk l hl k (by omega), Option.bind_some]
  cases h : busOk l with
  | true =>
    rw [if_pos rfl, if_pos rfl]
    exact iPlaces _ (fromIs l n) l hl (fun i hi => by rw [fromIs_eq l n i hi]) k (by omega)
  | false => rw [if_neg (by decide), if_neg (by decide)]
theorem sBusOf (l : List Fr) (n : Int) (hl : l.length ≤ 1048576) (k : Nat) (hk : 1050000 ≤ k) : spec_BusOf.f k l n = some (busOf l n) := by
  unfold spec_BusOf.f busOf
  cases h : busOk l with
  | true =>
    rw [if_pos rfl]
    have hb := busOk_len h
    have : ∀ d i k, i + d = l.length → 2 * d + 200 < k → spec_BusOf.l0 k l n (wh (fromIs l n) i) (i : Int) = some (wh (fromIs l n) l.length) := by
      intro d
      induction d with
      | zero =>
        intro i k hi hk
        obtain ⟨k, rfl⟩ : ∃ j, k = (j + 1) + 1 := ⟨k - 2, by omega⟩
        obtain rfl : i = l.length := by omega
        simp only [spec_BusOf.l0]
        rw [if_neg (by omega)]
        simp only [spec_BusOf.j1]
        rw [if_neg (by decide)]
      | succ d ih =>
        intro i k hi hk
        obtain ⟨k, rfl⟩ : ∃ j, k = (j + 1) + 1 := ⟨k - 2, by omega⟩
        have hw := wh_len (fromIs l n) i
        have ih := ih (i + 1) k (by omega) (by omega)
        rw [wh, fromIs_eq l n i (by omega)] at ih
        simp only [spec_BusOf.l0]
        rw [if_pos (by omega), sBusOk l hl (k + 1) (by omega), h, Option.bind_some]
        simp only [spec_BusOf.j1]
        rw [if_pos trivial, if_pos (by omega), if_pos (by omega), rdFr l i (by omega), wrap_succ (show i < l.length by omega) (by omega)]
        by_cases h2 : l[i].f0 = n
        · rw [if_pos (by rw [h2]; exact beq_self_eq_true n)] at ih
          rw [if_pos h2, if_pos (by omega)]; exact ih
        · rw [if_neg (by rw [beq_iff_eq]; exact h2)] at ih
          rw [if_neg h2]; exact ih
    exact this l.length 0 k (by omega) (by omega)
  | false =>
    rw [if_neg (by decide)]
    obtain ⟨k, rfl⟩ : ∃ j, k = (j + 1) + 1 := ⟨k - 2, by omega⟩
    simp only [spec_BusOf.l0]
    split
    · rw [sBusOk l hl (k + 1) (by omega), h, Option.bind_some]
      simp only [spec_BusOf.j1]
      rw [if_neg (by decide)]
    · simp only [spec_BusOf.j1]
      rw [if_neg (by decide)]
theorem rdI (l : List Int) (i : Nat) (h : i < l.length) : rd l (i : Int) = l[i] := by
  unfold rd; simp [List.getD, h]
theorem markIntS (l : List Int) (hl : l.length ≤ 2000000) (a : Int) (ha : 0 ≤ a ∧ a ≤ 1000000000) (k : Nat) (hk : l.length < k) : laws_markIntS.f k l a = some (a + l.length, (List.range l.length).map fun (i : Nat) => a + i) := by
  unfold laws_markIntS.f
  have := mark_loop0 (l := l) (f := fun i => a + i) (w := fun i => a + i) (c := 0) (L := fun k acc w i => laws_markIntS.l0 k acc w i) (fin := fun acc => (a + l.length, acc)) (fun k i acc hi hacc _ => ?_) (fun k acc hacc => ?_) k (by omega)
  · simp only [Int.natCast_zero, Int.add_zero] at this; exact this
  · simp only [laws_markIntS.l0]
    rw [if_pos (by omega), if_pos (by omega), wrap_succ hi (by omega), wrap_id (by omega) (by omega), Int.toNat_natCast]
    congr 1; omega
  · simp only [laws_markIntS.l0]
    rw [if_neg (by omega)]
theorem heldIntS (n : Nat) (hn : n ≤ 2000000) (a : Int) (ha : 0 ≤ a ∧ a ≤ 1000000000) (k : Nat) (hk : n < k) : laws_heldIntS.f k ((List.range n).map fun (i : Nat) => a + i) a = some (a + n) := by
  unfold laws_heldIntS.f
  have hlen : ((List.range n).map fun (i : Nat) => a + (i : Int)).length = n := by simp
  have := track_loop0 (n := n) (c := 0) (L := fun k s i => laws_heldIntS.l0 k ((List.range n).map fun (i : Nat) => a + i) s i) (F := fun i => a + (i : Int)) (r := a + n) (fun k i hi _ => ?_) (fun k _ => ?_) k (by omega)
  · simp only [Int.natCast_zero, Int.add_zero] at this; exact this
  · simp only [laws_heldIntS.l0]
    rw [if_pos (by omega), if_pos (by omega), rdI _ i (by omega), wrap_succ hi (by omega), wrap_id (by omega) (by omega), if_pos (by simp)]
    congr 1; omega
  · simp only [laws_heldIntS.l0]
    rw [if_neg (by omega)]
theorem eqIntS (l : List Int) (hl : l.length ≤ 2000000) (k : Nat) (hk : l.length < k) : laws_eqIntS.f k l l = some true := by
  unfold laws_eqIntS.f
  rw [if_pos rfl]
  refine all_loopT (n := l.length) (L := fun k i => laws_eqIntS.l0 k l l i) (fun k i hi => ?_) (fun k => ?_) k hk
  · simp only [laws_eqIntS.l0]
    rw [if_pos (by omega), if_pos (by omega), if_pos (by omega), wrap_succ hi (by omega), if_pos (by trivial)]
  · simp only [laws_eqIntS.l0]
    rw [if_neg (by omega)]
def digits : Nat → Int → ByteArray → ByteArray
  | 0, _, s => s
  | d + 1, x, s => if x > 0 then digits d (x / 10) ((strOfNums [(wrap64 (48 + (Int.tmod x 10))) % 256]) ++ s) else s
theorem nums_size (x : Int) : (strOfNums [x]).size = 1 := by unfold strOfNums; rfl
theorem pow10 (d : Nat) : (10 : Int) ^ (d + 1) = 10 * 10 ^ d := by rw [Int.pow_succ]; omega
theorem markL : ∀ (d : Nat) (x : Int) (s : ByteArray) (k : Nat), 0 ≤ x → x < 10 ^ d → x ≤ 9223372036854775807 → s.size + d ≤ 1000 → d < k → laws_markText.l0 k x s = some ((⟨#[109]⟩ : ByteArray) ++ digits d x s) := by
  intro d
  induction d with
  | zero =>
    intro x s k h0 h1 h2 h3 hk
    obtain ⟨k, rfl⟩ : ∃ j, k = j + 1 := ⟨k - 1, by omega⟩
    simp only [laws_markText.l0, digits]
    rw [if_neg (by simp at h1; omega), if_pos (by omega)]
  | succ d ih =>
    intro x s k h0 h1 h2 h3 hk
    obtain ⟨k, rfl⟩ : ∃ j, k = j + 1 := ⟨k - 1, by omega⟩
    simp only [laws_markText.l0, digits]
    by_cases h : x > 0
    · rw [pow10] at h1
      have hd : x / 10 ≤ x := Int.ediv_le_self _ h0
      rw [if_pos h, if_pos h, Option.bind_some, if_pos (by rw [nums_size]; omega), Int.tdiv_eq_ediv_of_nonneg h0, wrap_id (x := x / 10) (by omega) (by omega)]
      exact ih _ _ k (by omega) (by omega) (by omega) (by rw [ByteArray.size_append, nums_size]; omega) (by omega)
    · rw [if_neg h, if_neg h, if_pos (by omega)]
def markT (x : Int) : ByteArray := if x ≤ 0 then (⟨#[109, 48]⟩ : ByteArray) else (⟨#[109]⟩ : ByteArray) ++ digits 30 x (⟨#[]⟩ : ByteArray)
theorem markText (x : Int) (hx : x ≤ 9223372036854775807) (k : Nat) (hk : 40 ≤ k) : laws_markText.f k x = some (markT x) := by
  unfold laws_markText.f markT
  split
  · rfl
  · have hp : (9223372036854775807 : Int) < 10 ^ 30 := by decide
    rw [markL 30 x _ k (by omega) (by omega) hx (by decide) (by omega)]
theorem markFrameS (l : List Fr) (hl : l.length ≤ 2000000) (a : Int) (ha : 0 ≤ a ∧ a ≤ 1000000000) (k : Nat) (hk : l.length + 50 < k) :
    laws_markFrameS.f k l a = some (a + 6 * l.length, (List.range l.length).map fun (i : Nat) => (⟨a + 6 * i, a + 6 * i + 1, a + 6 * i + 2, a + 6 * i + 3, a + 6 * i + 4, markT (a + 6 * i + 5)⟩ : Fr)) := by
  unfold laws_markFrameS.f
  have := mark_loop0 (l := l) (f := fun i => (⟨a + 6 * i, a + 6 * i + 1, a + 6 * i + 2, a + 6 * i + 3, a + 6 * i + 4, markT (a + 6 * i + 5)⟩ : Fr)) (w := fun i => a + 6 * i) (c := 40) (L := fun k acc w i => laws_markFrameS.l0 k acc w i) (fin := fun acc => (a + 6 * l.length, acc)) (fun k i acc hi hacc hk => ?_) (fun k acc hacc => ?_) k (by omega)
  · simp only [Int.natCast_zero, Int.mul_zero, Int.add_zero] at this; exact this
  · simp only [laws_markFrameS.l0, Option.bind_some]
    rw [if_pos (by omega), if_pos (by omega), wrap_succ hi (by omega), Int.toNat_natCast]
    have w1 : wrap64 (a + 6 * (i : Int) + 1) = a + 6 * i + 1 := wrap_id (by omega) (by omega)
    have w2 : wrap64 (a + 6 * (i : Int) + 1 + 1) = a + 6 * i + 2 := by rw [wrap_id (by omega) (by omega)]; omega
    have w3 : wrap64 (a + 6 * (i : Int) + 2 + 1) = a + 6 * i + 3 := by rw [wrap_id (by omega) (by omega)]; omega
    have w4 : wrap64 (a + 6 * (i : Int) + 3 + 1) = a + 6 * i + 4 := by rw [wrap_id (by omega) (by omega)]; omega
    have w5 : wrap64 (a + 6 * (i : Int) + 4 + 1) = a + 6 * i + 5 := by rw [wrap_id (by omega) (by omega)]; omega
    have w6 : wrap64 (a + 6 * (i : Int) + 5 + 1) = a + 6 * ((i + 1 : Nat) : Int) := by rw [wrap_id (by omega) (by omega)]; omega
    simp only [w1, w2, w3, w4, w5, w6]
    have hr : ∀ v : Fr, rd_T33 (acc.set i v) (i : Int) = v := fun v => by rw [rdFr _ i (by simp; omega), List.getElem_set_self]
    simp only [hr, List.set_set]
    rw [markText _ (by omega) k (by omega), Option.bind_some]
  · simp only [laws_markFrameS.l0]
    rw [if_neg (by omega)]
end Go.Proofs.Ytjlmfnpgcmmdnaa.C
namespace Go.Proofs.Ytjlmfnpgcmmdnaa.V
open Go.RowKit Go.Proofs.Ytjlmfnpgcmmdnaa.P Go.Proofs.Ytjlmfnpgcmmdnaa.C Go.Proofs.Ytjlmfnpgcmmdnaa.G
theorem FnExactBusOf : ∀ (l0 : List (S52)) (a1 : Int), (l0.length ≤ 9223372036854775807 ∧ ∀ y ∈ l0, ((Lit.int .i64 y.f0).wf = true ∧ (Lit.int .i64 y.f1).wf = true ∧ (Lit.int .i64 y.f2).wf = true ∧ (Lit.int .i64 y.f3).wf = true ∧ (Lit.int .i64 y.f4).wf = true ∧ y.f5.size ≤ 9223372036854775807)) → (Lit.int .i64 a1).wf = true → ∃ k, laws_FnExactBusOf.f k l0 a1 = some true := by
  intro l a ⟨hl, hb⟩ _
  refine ⟨2200100, ?_⟩
  unfold laws_FnExactBusOf.f
  obtain ⟨r, h, hr⟩ := szFrameS l hl (fun y hy => (hb y hy).2.2.2.2.2) 1048576 (by omega) 2200100 (by omega)
  rw [h, Option.bind_some]
  by_cases h2 : r < 0
  · rw [if_pos h2]
  rw [if_neg h2]
  have hm : (l.map toFr).length = l.length := by simp
  have hq := busOf_len (l.map toFr) a
  have hj : ∀ k, 2200000 ≤ k → laws_FnExactBusOf.j0 k l a (busOf (l.map toFr) a) (busOf (l.map toFr) a) false = some true := by
    intro k hk
    obtain ⟨k, rfl⟩ : ∃ j, k = j + 1 := ⟨k - 1, by omega⟩
    simp only [laws_FnExactBusOf.j0]
    rw [if_neg (by decide), markIntS _ (by omega) 1 (by omega) k (by omega)]
    simp only [Option.bind_some]
    rw [heldIntS _ (by omega) 1 (by omega) k (by omega)]
    simp only [Option.bind_some]
    rw [if_neg (by omega), if_pos trivial, toFrameS l (by omega) k (by omega)]
    simp only [Option.bind_some]
    rw [iBusOf _ a (by omega) k (by omega)]
    simp only [Option.bind_some]
    rw [eqIntS _ (by omega) k (by omega)]
    simp only [Option.bind_some]
    rw [if_pos (by trivial), if_neg (by omega), if_pos (by trivial)]
  rw [toFrameS l (by omega) _ (by omega)]
  simp only [Option.bind_some]
  rw [sBusOf _ a (by omega) _ (by omega), iBusOf _ a (by omega) _ (by omega)]
  simp only [Option.bind_some]
  rw [eqIntS _ (by omega) _ (by omega), eqFrameS _ (by omega) _ (by omega)]
  simp only [Option.bind_some, if_true]
  rw [markFrameS _ (by omega) 1 (by omega) _ (by omega)]
  simp only [Option.bind_some, Bool.not_true]
  rw [if_neg (by omega)]
  exact hj _ (by omega)
end Go.Proofs.Ytjlmfnpgcmmdnaa.V
namespace Go.Proofs.Ytjlmfnpgcmmdnaa.Args
open Go.ChangeShapes Go.WideShapes Go.Deep Go.Proofs.YtjlmfnpgcmmdnaaW.PrintWords
theorem trod_field {H : Type} {enc : TypeId × Value → H} {P : Program} {w : World} {base : Nat} {spare : Nat → Bool} {held : Bool} {fuel : Nat} {t : TypeId} {cs : List Value} {x : DataW H × List MemPlace} {fs : Array Field}
    (ht : P.underlying t = some (.struct fs)) (h : DataW.trod enc P w base spare held fuel t cs = some x) :
    cs.length = P.cellsOf t ∧ ∀ (i : Nat) (f : Field), fs[i]? = some f → ∃ n y, DataW.trod enc P w base spare held n f.type ((cs.drop f.offset).take (P.cellsOf f.type)) = some y := by
  obtain ⟨xs, n, rfl, _, hl, hx, hf⟩ := DataW.trod_struct ht h
  refine ⟨hl, fun i f hi => ⟨n, ?_⟩⟩
  have hi2 : i < fs.size := by
    rcases Nat.lt_or_ge i fs.size with h' | h'
    · exact h'
    · rw [Array.getElem?_eq_none h'] at hi; cases hi
  obtain ⟨y, hy⟩ : ∃ y, xs[i]? = some y := ⟨_, List.getElem?_eq_getElem (by omega)⟩
  exact ⟨y, by rw [hf i f hi, hy]⟩
theorem trod_at {H : Type} {enc : TypeId × Value → H} {P : Program} {w : World} {base : Nat} {spare : Nat → Bool} {held : Bool} {fuel : Nat} {t : TypeId} {cs : List Value} {x : DataW H × List MemPlace} {fs : Array Field}
    (ht : P.underlying t = some (.struct fs)) (h : DataW.trod enc P w base spare held fuel t cs = some x) (i : Nat) (ft : TypeId) (off sz : Nat) (cs' : List Value)
    (hf : ∃ f, fs[i]? = some f ∧ f.type = ft ∧ f.offset = off) (hw : P.cellsOf ft = sz) (hc : (cs.drop off).take sz = cs') : ∃ n y, DataW.trod enc P w base spare held n ft cs' = some y := by
  obtain ⟨f, h1, rfl, rfl⟩ := hf
  subst hw hc
  exact (trod_field ht h).2 i f h1
def Opens (P : Program) (t : TypeId) {α : Type} (d : Kd α) (B : α → Prop) : Prop :=
  ∀ {H : Type} {enc : TypeId × Value → H} {w : World} {base : Nat} {spare : Nat → Bool} {held : Bool} {fuel : Nat} {cs : List Value} {x : DataW H × List MemPlace},
    DataW.trod enc P w base spare held fuel t cs = some x → ∃ a, d.K w a cs ∧ B a
theorem open_row {H : Type} {enc : TypeId × Value → H} {P : Program} {w : World} {base : Nat} {spare : Nat → Bool} {held : Bool} {fuel : Nat} {t e : TypeId} {c : Value} {x : DataW H × List MemPlace} {α : Type} {d : Kd α} {B : α → Prop} (z : α)
    (ht : P.underlying t = some (.slice e)) (hsz : P.cellsOf e = d.sz) (he : Opens P e d B) (h : DataW.trod enc P w base spare held fuel t [c] = some x) :
    ∃ A cap l, c = .slice A l.length cap ∧ Kd.C d w A l.length l ∧ l.length ≤ cap ∧ l.length ≤ 9223372036854775807 ∧ ∀ y ∈ l, B y := by
  haveI : Inhabited α := ⟨z⟩
  rcases open_slice ht h with ⟨hc, _⟩ | ⟨a, len, cap, m, n, D, Pl, hc, _, hl, hm, hmm, _, hx⟩
  · obtain rfl := List.head_eq_of_cons_eq hc
    exact ⟨none, 0, [], rfl, Kd.C_nil _ _, Nat.le_refl _, by simp, fun y hy => by cases hy⟩
  · obtain rfl := List.head_eq_of_cons_eq hc
    have hlm : len ≤ m := by rw [hmm]; split <;> omega
    obtain ⟨f, hf⟩ := choose_lt (α := α) (n := len) (p := fun i y => (∃ c', c'.length = d.sz ∧ d.K w y c' ∧ ∀ k u, c'[k]? = some u → w.cell? (a.add (i * d.sz + k)) = some u) ∧ B y) (fun i hi => by
      obtain ⟨cs', h1, h2⟩ := hx i (by omega)
      obtain ⟨y, hk, hb⟩ := he h2
      refine ⟨y, ⟨cs', d.K_len hk, hk, fun k u hu => ?_⟩, hb⟩
      obtain ⟨_, hlen, hcell⟩ := World.cells?_some h1
      have hk2 : k < cs'.length := (List.getElem?_eq_some_iff.1 hu).1
      have := hcell k (by omega)
      rw [hsz, Addr.add_add] at this
      rw [this, hu])
    have hmax : len ≤ 9223372036854775807 := by unfold maxLen at hm; omega
    refine ⟨some a, cap, (List.range len).map f, by simp, ⟨by simp, by simpa using hmax, fun _ => ⟨a, rfl, fun j p hj => ?_⟩⟩, by simpa using hl, by simpa using hmax, fun y hy => ?_⟩
    · have hj2 : j < len := by simpa using (List.getElem?_eq_some_iff.1 hj).1
      rw [List.getElem?_map, List.getElem?_range hj2] at hj
      obtain rfl := Option.some.inj hj
      exact (hf j hj2).1
    · obtain ⟨j, hj, rfl⟩ := List.mem_map.1 hy
      exact (hf j (List.mem_range.1 hj)).2
end Go.Proofs.Ytjlmfnpgcmmdnaa.Args
