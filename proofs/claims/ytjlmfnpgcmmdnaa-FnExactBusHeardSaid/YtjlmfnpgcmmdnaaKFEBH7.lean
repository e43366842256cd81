/- Texts of the seat's proofs, part 7: functions of the program told as plain functions, with their contracts, and what is shown of them. No condition. -/
import Derived.Test.YtjlmfnpgcmmdnaaUKFEBH
import Derived.Test.YtjlmfnpgcmmdnaaKFEBH5
import Derived.Test.YtjlmfnpgcmmdnaaKFEBH6
import Derived.Test.YtjlmfnpgcmmdnaaKFEBH1
import Derived.Test.YtjlmfnpgcmmdnaaKFEBH3
import Derived.Test.YtjlmfnpgcmmdnaaKFEBH4
import Derived.Test.YtjlmfnpgcmmdnaaKFEBH2
import Derived.Deep.Slices
import Derived.ProofKit
import Derived.OpenShut
set_option linter.unusedVariables false
set_option linter.unusedSimpArgs false
namespace Go.Proofs.Ytjlmfnpgcmmdnaa.C
open Go.RowKit Go.Proofs.Ytjlmfnpgcmmdnaa.P Go.Proofs.Ytjlmfnpgcmmdnaa.G
def uptoL (gap : Int) : List Sl → Int
  | [] => 0
  | x :: xs => x.f1 + gap + uptoL gap xs
def upto (gap : Int) (l : List Sl) (n : Nat) : Int := uptoL gap (l.take n)
def round (gap : Int) (l : List Sl) : Int := upto gap l l.length
end Go.Proofs.Ytjlmfnpgcmmdnaa.C
namespace Go.Proofs.Ytjlmfnpgcmmdnaa.P
open Go.RowKit Go.Proofs.YtjlmfnpgcmmdnaaW.PrintWords Go.Proofs.YtjlmfnpgcmmdnaaW.PrintLast Go.Proofs.YtjlmfnpgcmmdnaaW.PrintMore
attribute [local go_sem] max2_int min2_int max_two min_two max_three min_three max_four min_four
set_option linter.unusedVariables false
set_option linter.unusedSimpArgs false
end Go.Proofs.Ytjlmfnpgcmmdnaa.P

set_option linter.unusedVariables false
set_option linter.unusedSimpArgs false
namespace Go.Proofs.Ytjlmfnpgcmmdnaa.C
open Go.RowKit Go.Proofs.Ytjlmfnpgcmmdnaa.P Go.Proofs.Ytjlmfnpgcmmdnaa.G Go.Proofs.YtjlmfnpgcmmdnaaW.PrintMore
end Go.Proofs.Ytjlmfnpgcmmdnaa.C

namespace Go.Proofs.Ytjlmfnpgcmmdnaa.P
open Go.RowKit Go.Proofs.YtjlmfnpgcmmdnaaW.PrintWords Go.Proofs.YtjlmfnpgcmmdnaaW.PrintLast Go.Proofs.YtjlmfnpgcmmdnaaW.PrintMore
attribute [local go_sem] max2_int min2_int max_two min_two max_three min_three max_four min_four
set_option linter.unusedVariables false
set_option linter.unusedSimpArgs false
end Go.Proofs.Ytjlmfnpgcmmdnaa.P

namespace Go.Proofs.Ytjlmfnpgcmmdnaa.P
open Go.RowKit Go.Proofs.YtjlmfnpgcmmdnaaW.PrintWords Go.Proofs.YtjlmfnpgcmmdnaaW.PrintLast Go.Proofs.YtjlmfnpgcmmdnaaW.PrintMore
attribute [local go_sem] max2_int min2_int max_two min_two max_three min_three max_four min_four
set_option linter.unusedVariables false
set_option linter.unusedSimpArgs false
end Go.Proofs.Ytjlmfnpgcmmdnaa.P

namespace Go.Proofs.Ytjlmfnpgcmmdnaa.P
open Go.RowKit Go.Proofs.YtjlmfnpgcmmdnaaW.PrintWords Go.Proofs.YtjlmfnpgcmmdnaaW.PrintLast Go.Proofs.YtjlmfnpgcmmdnaaW.PrintMore
attribute [local go_sem] max2_int min2_int max_two min_two max_three min_three max_four min_four
set_option linter.unusedVariables false
set_option linter.unusedSimpArgs false
end Go.Proofs.Ytjlmfnpgcmmdnaa.P

namespace Go.Proofs.Ytjlmfnpgcmmdnaa.P
open Go.RowKit Go.Proofs.YtjlmfnpgcmmdnaaW.PrintWords Go.Proofs.YtjlmfnpgcmmdnaaW.PrintLast Go.Proofs.YtjlmfnpgcmmdnaaW.PrintMore
attribute [local go_sem] max2_int min2_int max_two min_two max_three min_three max_four min_four
set_option linter.unusedVariables false
set_option linter.unusedSimpArgs false
end Go.Proofs.Ytjlmfnpgcmmdnaa.P

namespace Go.Proofs.Ytjlmfnpgcmmdnaa.P
open Go.RowKit Go.Proofs.YtjlmfnpgcmmdnaaW.PrintWords Go.Proofs.YtjlmfnpgcmmdnaaW.PrintLast Go.Proofs.YtjlmfnpgcmmdnaaW.PrintMore
attribute [local go_sem] max2_int min2_int max_two min_two max_three min_three max_four min_four
set_option linter.unusedVariables false
set_option linter.unusedSimpArgs false
end Go.Proofs.Ytjlmfnpgcmmdnaa.P

namespace Go.Proofs.Ytjlmfnpgcmmdnaa.P
open Go.RowKit Go.Proofs.YtjlmfnpgcmmdnaaW.PrintWords Go.Proofs.YtjlmfnpgcmmdnaaW.PrintLast Go.Proofs.YtjlmfnpgcmmdnaaW.PrintMore
attribute [local go_sem] max2_int min2_int max_two min_two max_three min_three max_four min_four
set_option linter.unusedVariables false
set_option linter.unusedSimpArgs false
end Go.Proofs.Ytjlmfnpgcmmdnaa.P

namespace Go.Proofs.Ytjlmfnpgcmmdnaa.C
open Go.RowKit Go.Proofs.Ytjlmfnpgcmmdnaa.P Go.Proofs.Ytjlmfnpgcmmdnaa.G Go.Proofs.YtjlmfnpgcmmdnaaW.PrintWords
def wh (g : Nat → Bool) : Nat → List Int
  | 0 => []
  | i + 1 => if g i = true then wh g i ++ [(i : Int)] else wh g i
theorem wh_len (g : Nat → Bool) : ∀ n, (wh g n).length ≤ n := by
  intro n
  induction n with
  | zero => simp [wh]
  | succ n ih =>
    rw [wh]; split
    · rw [List.length_append, List.length_singleton]; omega
    · omega
theorem wh_nil (g : Nat → Bool) : ∀ n, (wh g n).length = 0 ↔ ∀ i, i < n → g i = false := by
  intro n
  induction n with
  | zero => simp [wh]
  | succ n ih =>
    rw [wh]
    cases h : g n with
    | true =>
      rw [if_pos rfl]
      constructor
      · intro h2; simp at h2
      · intro h2; have := h2 n (by omega); rw [h] at this; cases this
    | false =>
      rw [if_neg (by decide), ih]
      constructor
      · intro h2 i hi
        by_cases hn : i = n
        · rw [hn]; exact h
        · exact h2 i (by omega)
      · intro h2 i hi; exact h2 i (by omega)
theorem wh_one (g : Nat → Bool) : ∀ n i, i < n → g i = true → ((wh g n).length = 1 ↔ ∀ k, k < n → k ≠ i → g k = false) := by
  intro n
  induction n with
  | zero => intro i hi; omega
  | succ n ih =>
    intro i hi h
    rw [wh]
    by_cases hn : i = n
    · subst hn
      rw [if_pos h, List.length_append, List.length_singleton]
      have := wh_nil g i
      constructor
      · intro h2 k hk hne; exact this.1 (by omega) k (by omega)
      · intro h2; have := this.2 (fun k hk => h2 k (by omega) (by omega)); omega
    · have ih := ih i (by omega) h
      cases hg : g n with
      | false =>
        rw [if_neg (by decide), ih]
        constructor
        · intro h2 k hk hne
          by_cases hkn : k = n
          · rw [hkn]; exact hg
          · exact h2 k (by omega) hne
        · intro h2 k hk hne; exact h2 k (by omega) hne
      | true =>
        rw [if_pos rfl, List.length_append, List.length_singleton]
        have hz := wh_nil g n
        constructor
        · intro h2
          have := hz.1 (by omega) i (by omega)
          rw [h] at this; cases this
        · intro h2
          have := h2 n (by omega) (by omega)
          rw [hg] at this; cases this
theorem iPlaces (p : Fr → Option Bool) (g : Nat → Bool) (l : List Fr) (hl : l.length ≤ 1048576) (hp : ∀ i (hi : i < l.length), p l[i] = some (g i)) (k : Nat) (hk : l.length < k) :
    impl_places_Frame.f p k l = some (wh g l.length) := by
  unfold impl_places_Frame.f
  refine track_loop0 (n := l.length) (c := 0) (σ := List Int) (F := fun i => wh g i) (L := fun k s i => impl_places_Frame.l0 p k s l (l.length : Int) i) (r := wh g l.length) (fun k i hi hk => ?_) (fun k hk => ?_) k (by omega)
  · simp only [impl_places_Frame.l0]
    have := wh_len g i
    rw [if_pos (by omega), if_pos (by omega), if_pos (by omega), rdFr l i hi, hp i hi, Option.bind_some, wrap_succ hi (by omega), wh]
    cases g i with
    | true => rw [if_pos rfl, if_pos (by omega), if_pos rfl]
    | false => rw [if_neg (by decide), if_neg (by decide)]
  · simp only [impl_places_Frame.l0]
    rw [if_neg (by omega)]
def aloneIs (l : List Fr) (i : Nat) : Bool := (wh (cl l i) l.length).length == 1
def heardIs (l : List Fr) (t : Int) (i : Nat) : Bool := match l[i]? with
  | some x => decide (x.f4 ≤ t) && aloneIs l i
  | none => false
theorem heardIs_eq (l : List Fr) (t : Int) (i : Nat) (hi : i < l.length) : heardIs l t i = (decide (l[i].f4 ≤ t) && aloneIs l i) := by
  unfold heardIs; rw [List.getElem?_eq_getElem hi]
def busHeard (l : List Fr) (t : Int) : List Int := if busOk l = true then wh (heardIs l t) l.length else []
theorem busHeard_len (l : List Fr) (t : Int) : (busHeard l t).length ≤ 60 := by
  unfold busHeard; split
  · rename_i h
    have := busOk_len h
    have := wh_len (heardIs l t) l.length
    omega
  · simp
theorem iClash (a b : Fr) : impl_clash.f a.f0 a.f1 a.f2 a.f3 a.f4 a.f5 b.f0 b.f1 b.f2 b.f3 b.f4 b.f5 = some (decide (a.f3 < b.f4) && decide (b.f3 < a.f4)) := by
  unfold impl_clash.f
  by_cases h1 : a.f3 < b.f4
  · rw [if_pos h1, decide_eq_true h1, Bool.true_and]
  · rw [if_neg h1, decide_eq_false h1, Bool.false_and]
theorem sClash (a b : Fr) : spec_l15Clash.f a.f0 a.f1 a.f2 a.f3 a.f4 a.f5 b.f0 b.f1 b.f2 b.f3 b.f4 b.f5 = some (decide (a.f3 < b.f4) && decide (b.f3 < a.f4)) := by
  unfold spec_l15Clash.f
  by_cases h1 : a.f3 < b.f4
  · rw [if_pos h1, decide_eq_true h1, Bool.true_and]
  · rw [if_neg h1, decide_eq_false h1, Bool.false_and]
theorem iHeard1 (l : List Fr) (t : Int) (hl : l.length ≤ 1048576) (i : Nat) (hi : i < l.length) (k : Nat) (hk : l.length < k) : impl_BusHeard_1.f k l t l[i] = some (heardIs l t i) := by
  unfold impl_BusHeard_1.f
  rw [heardIs_eq l t i hi]
  by_cases h : l[i].f4 ≤ t
  · rw [if_pos h, decide_eq_true h, Bool.true_and]
    rw [iPlaces _ (cl l i) l hl (fun j hj => by rw [iClash, cl_eq l i j hi hj]) k hk, Option.bind_some]
    unfold aloneIs
    congr 1
    rw [Bool.eq_iff_iff, beq_iff_eq, beq_iff_eq]
    omega
  · rw [if_neg h, decide_eq_false h, Bool.false_and]
theorem iBusHeard (l : List Fr) (t : Int) (hl : l.length ≤ 1048576) (k : Nat) (hk : 1050000 ≤ k) : impl_BusHeard.f k l t = some (busHeard l t) := by
  unfold impl_BusHeard.f busHeard
  rw [iBusOk l hl k (by omega), Option.bind_some]
  cases h : busOk l with
  | true =>
    rw [if_pos rfl, if_pos rfl]
    exact iPlaces _ (heardIs l t) l hl (fun i hi => iHeard1 l t hl i hi k (by omega)) k (by omega)
  | false => rw [if_neg (by decide), if_neg (by decide)]
theorem frOk_get {l : List Fr} (h : busOk l = true) (i : Nat) (hi : i < l.length) : l[i].f3 < l[i].f4 := by
  unfold busOk at h
  rw [Bool.and_eq_true, List.all_eq_true] at h
  have h := h.1 i (List.mem_range.2 hi)
  unfold frOk at h
  rw [List.getElem?_eq_getElem hi] at h
  simp only [Bool.and_eq_true] at h
  have h := h.1
  unfold frameOk at h
  simp only [Bool.and_eq_true, decide_eq_true_eq] at h
  omega
theorem cl_self {l : List Fr} (h : busOk l = true) (i : Nat) (hi : i < l.length) : cl l i i = true := by
  have := frOk_get h i hi
  rw [cl_eq l i i hi hi, decide_eq_true this]; rfl
def heardSt (l : List Fr) (i : Nat) (s : Bool) (j : Nat) : Bool := if j = i then s else if cl l i j = true then false else s
theorem heardSt_fold (l : List Fr) (i : Nat) : ∀ (d j : Nat) (s : Bool), (List.range' j d).foldl (fun s j => heardSt l i s j) s = true ↔ (s = true ∧ ∀ k, j ≤ k → k < j + d → k ≠ i → cl l i k = false) := by
  intro d
  induction d with
  | zero =>
    intro j s
    rw [List.range'_zero, List.foldl_nil]
    constructor
    · intro h; exact ⟨h, fun k _ _ _ => by omega⟩
    · intro h; exact h.1
  | succ d ih =>
    intro j s
    rw [List.range'_succ, List.foldl_cons, ih]
    unfold heardSt
    by_cases hj : j = i
    · rw [if_pos hj]
      constructor
      · intro ⟨h1, h2⟩
        refine ⟨h1, fun k hk hk2 hne => h2 k (by omega) (by omega) hne⟩
      · intro ⟨h1, h2⟩
        exact ⟨h1, fun k hk hk2 hne => h2 k (by omega) (by omega) hne⟩
    · rw [if_neg hj]
      cases hc : cl l i j with
      | true =>
        rw [if_pos rfl]
        constructor
        · intro ⟨h1, _⟩; cases h1
        · intro ⟨_, h2⟩; have := h2 j (by omega) (by omega) hj; rw [hc] at this; cases this
      | false =>
        rw [if_neg (by decide)]
        constructor
        · intro ⟨h1, h2⟩
          refine ⟨h1, fun k hk hk2 hne => ?_⟩
          by_cases hkj : k = j
          · rw [hkj]; exact hc
          · exact h2 k (by omega) (by omega) hne
        · intro ⟨h1, h2⟩
          exact ⟨h1, fun k hk hk2 hne => h2 k (by omega) (by omega) hne⟩
theorem sHeardRow {l : List Fr} (h : busOk l = true) (t : Int) (i : Nat) (hi : i < l.length) (out : List Int) (k : Nat) :
    spec_BusHeard.l1 (k + l.length + 1) l t out (i : Int) (decide (l[i].f4 ≤ t)) 0 = if heardIs l t i = true then (if out.length < 17592186044416 then spec_BusHeard.l0 k l t (out ++ [(i : Int)]) ((i + 1 : Nat) : Int) else none) else spec_BusHeard.l0 k l t out ((i + 1 : Nat) : Int) := by
  have hb := busOk_len h
  have he : ((List.range' 0 l.length).foldl (fun s j => heardSt l i s j) (decide (l[i].f4 ≤ t))) = heardIs l t i := by
    rw [Bool.eq_iff_iff, heardSt_fold, heardIs_eq l t i hi, Bool.and_eq_true]
    unfold aloneIs
    rw [beq_iff_eq, wh_one (cl l i) l.length i hi (cl_self h i hi)]
    constructor
    · intro ⟨h1, h2⟩; exact ⟨h1, fun k hk hne => h2 k (by omega) (by omega) hne⟩
    · intro ⟨h1, h2⟩; exact ⟨h1, fun k _ hk hne => h2 k (by omega) hne⟩
  rw [← he]
  have := fold_exact (n := l.length) (L := fun k s j => spec_BusHeard.l1 k l t out (i : Int) s j) (M := fun k s => if s = true then (if out.length < 17592186044416 then spec_BusHeard.l0 k l t (out ++ [(i : Int)]) ((i + 1 : Nat) : Int) else none) else spec_BusHeard.l0 k l t out ((i + 1 : Nat) : Int)) (st := fun j s => heardSt l i s j) (I := fun _ _ => True) (fun k j s hj hs => ?_) (fun j s hj hs => ?_) (fun k s hs => ?_) l.length 0 (decide (l[i].f4 ≤ t)) k (by omega) trivial
  · exact this
  · simp only [spec_BusHeard.l1]
    rw [if_pos (by omega), wrap_succ hj (by omega)]
    unfold heardSt
    by_cases hji : j = i
    · rw [if_pos (by omega), if_pos hji]
    · rw [if_neg (by omega), if_neg hji, if_pos (by omega), if_pos (by omega), if_pos (by omega), rdFr l i hi, rdFr l j hj, sClash, Option.bind_some, cl_eq l i j hi hj]
      cases (decide (l[i].f3 < l[j].f4) && decide (l[j].f3 < l[i].f4)) with
      | true => rw [if_pos rfl, if_pos rfl]
      | false => rw [if_neg (by decide), if_neg (by decide)]
  · trivial
  · simp only [spec_BusHeard.l1]
    rw [if_neg (by omega), wrap_succ hi (by omega)]
theorem sBusHeard (l : List Fr) (t : Int) (hl : l.length ≤ 1048576) (k : Nat) (hk : 1050000 ≤ k) : spec_BusHeard.f k l t = some (busHeard l t) := by
  unfold spec_BusHeard.f busHeard
  cases h : busOk l with
  | true =>
    rw [if_pos rfl]
    have hb := busOk_len h
    have : ∀ d i k, i + d = l.length → 70 * d + 200 < k → spec_BusHeard.l0 k l t (wh (heardIs l t) i) (i : Int) = some (wh (heardIs l t) l.length) := by
      intro d
      induction d with
      | zero =>
        intro i k hi hk
        obtain ⟨k, rfl⟩ : ∃ j, k = (j + 1) + 1 := ⟨k - 2, by omega⟩
        obtain rfl : i = l.length := by omega
        simp only [spec_BusHeard.l0]
        rw [if_neg (by omega)]
        simp only [spec_BusHeard.j1]
        rw [if_neg (by decide)]
      | succ d ih =>
        intro i k hi hk
        obtain ⟨k, rfl⟩ : ∃ j, k = ((j + l.length + 1) + 1) + 1 := ⟨k - l.length - 3, by omega⟩
        have hw := wh_len (heardIs l t) i
        have ih := ih (i + 1) k (by omega) (by omega)
        rw [wh] at ih
        simp only [spec_BusHeard.l0]
        rw [if_pos (by omega), sBusOk l hl _ (by omega), h, Option.bind_some]
        simp only [spec_BusHeard.j1]
        rw [if_pos trivial, if_pos (by omega), if_pos (by omega), rdFr l i (by omega), sHeardRow h t i (by omega)]
        cases h2 : heardIs l t i with
        | true =>
          rw [if_pos h2] at ih
          rw [if_pos rfl, if_pos (by omega)]; exact ih
        | false =>
          rw [if_neg (by rw [h2]; decide)] at ih
          rw [if_neg (by decide)]; exact ih
    exact this l.length 0 k (by omega) (by omega)
  | false =>
    rw [if_neg (by decide)]
    obtain ⟨k, rfl⟩ : ∃ j, k = (j + 1) + 1 := ⟨k - 2, by omega⟩
    simp only [spec_BusHeard.l0]
    split
    · rw [sBusOk l hl (k + 1) (by omega), h, Option.bind_some]
      simp only [spec_BusHeard.j1]
      rw [if_neg (by decide)]
    · simp only [spec_BusHeard.j1]
      rw [if_neg (by decide)]
theorem rdI (l : List Int) (i : Nat) (h : i < l.length) : rd l (i : Int) = l[i] := by
  unfold rd; simp [List.getD, h]
theorem markIntS (l : List Int) (hl : l.length ≤ 2000000) (a : Int) (ha : 0 ≤ a ∧ a ≤ 1000000000) (k : Nat) (hk : l.length < k) : laws_markIntS.f k l a = some (a + l.length, (List.range l.length).map fun (i : Nat) => a + i) := by
  unfold laws_markIntS.f
  have := mark_loop0 (l := l) (f := fun i => a + i) (w := fun i => a + i) (c := 0) (L := fun k acc w i => laws_markIntS.l0 k acc w i) (fin := fun acc => (a + l.length, acc)) (fun k i acc hi hacc _ => ?_) (fun k acc hacc => ?_) k (by omega)
  · simp only [Int.natCast_zero, Int.add_zero] at this; exact this
  · simp only [laws_markIntS.l0]
    rw [if_pos (by omega), if_pos (by omega), wrap_succ hi (by omega), wrap_id (by omega) (by omega), Int.toNat_natCast]
    congr 1; omega
  · simp only [laws_markIntS.l0]
    rw [if_neg (by omega)]
theorem heldIntS (n : Nat) (hn : n ≤ 2000000) (a : Int) (ha : 0 ≤ a ∧ a ≤ 1000000000) (k : Nat) (hk : n < k) : laws_heldIntS.f k ((List.range n).map fun (i : Nat) => a + i) a = some (a + n) := by
  unfold laws_heldIntS.f
  have hlen : ((List.range n).map fun (i : Nat) => a + (i : Int)).length = n := by simp
  have := track_loop0 (n := n) (c := 0) (L := fun k s i => laws_heldIntS.l0 k ((List.range n).map fun (i : Nat) => a + i) s i) (F := fun i => a + (i : Int)) (r := a + n) (fun k i hi _ => ?_) (fun k _ => ?_) k (by omega)
  · simp only [Int.natCast_zero, Int.add_zero] at this; exact this
  · simp only [laws_heldIntS.l0]
    rw [if_pos (by omega), if_pos (by omega), rdI _ i (by omega), wrap_succ hi (by omega), wrap_id (by omega) (by omega), if_pos (by simp)]
    congr 1; omega
  · simp only [laws_heldIntS.l0]
    rw [if_neg (by omega)]
theorem eqIntS (l : List Int) (hl : l.length ≤ 2000000) (k : Nat) (hk : l.length < k) : laws_eqIntS.f k l l = some true := by
  unfold laws_eqIntS.f
  rw [if_pos rfl]
  refine all_loopT (n := l.length) (L := fun k i => laws_eqIntS.l0 k l l i) (fun k i hi => ?_) (fun k => ?_) k hk
  · simp only [laws_eqIntS.l0]
    rw [if_pos (by omega), if_pos (by omega), if_pos (by omega), wrap_succ hi (by omega), if_pos (by trivial)]
  · simp only [laws_eqIntS.l0]
    rw [if_neg (by omega)]
def digits : Nat → Int → ByteArray → ByteArray
  | 0, _, s => s
  | d + 1, x, s => if x > 0 then digits d (x / 10) ((strOfNums [(wrap64 (48 + (Int.tmod x 10))) % 256]) ++ s) else s
theorem nums_size (x : Int) : (strOfNums [x]).size = 1 := by unfold strOfNums; rfl
theorem pow10 (d : Nat) : (10 : Int) ^ (d + 1) = 10 * 10 ^ d := by rw [Int.pow_succ]; omega
theorem markL : ∀ (d : Nat) (x : Int) (s : ByteArray) (k : Nat), 0 ≤ x → x < 10 ^ d → x ≤ 9223372036854775807 → s.size + d ≤ 1000 → d < k → laws_markText.l0 k x s = some ((⟨#[109]⟩ : ByteArray) ++ digits d x s) := by
  intro d
  induction d with
  | zero =>
    intro x s k h0 h1 h2 h3 hk
    obtain ⟨k, rfl⟩ : ∃ j, k = j + 1 := ⟨k - 1, by omega⟩
    simp only [laws_markText.l0, digits]
    rw [if_neg (by simp at h1; omega), if_pos (by omega)]
  | succ d ih =>
    intro x s k h0 h1 h2 h3 hk
    obtain ⟨k, rfl⟩ : ∃ j, k = j + 1 := ⟨k - 1, by omega⟩
    simp only [laws_markText.l0, digits]
    by_cases h : x > 0
    · rw [pow10] at h1
      have hd : x / 10 ≤ x := Int.ediv_le_self _ h0
      rw [if_pos h, if_pos h, Option.bind_some, if_pos (by rw [nums_size]; omega), Int.tdiv_eq_ediv_of_nonneg h0, wrap_id (x := x / 10) (by omega) (by omega)]
      exact ih _ _ k (by omega) (by omega) (by omega) (by rw [ByteArray.size_append, nums_size]; omega) (by omega)
    · rw [if_neg h, if_neg h, if_pos (by omega)]
def markT (x : Int) : ByteArray := if x ≤ 0 then (⟨#[109, 48]⟩ : ByteArray) else (⟨#[109]⟩ : ByteArray) ++ digits 30 x (⟨#[]⟩ : ByteArray)
theorem markText (x : Int) (hx : x ≤ 9223372036854775807) (k : Nat) (hk : 40 ≤ k) : laws_markText.f k x = some (markT x) := by
  unfold laws_markText.f markT
  split
  · rfl
  · have hp : (9223372036854775807 : Int) < 10 ^ 30 := by decide
    rw [markL 30 x _ k (by omega) (by omega) hx (by decide) (by omega)]
theorem markFrameS (l : List Fr) (hl : l.length ≤ 2000000) (a : Int) (ha : 0 ≤ a ∧ a ≤ 1000000000) (k : Nat) (hk : l.length + 50 < k) :
    laws_markFrameS.f k l a = some (a + 6 * l.length, (List.range l.length).map fun (i : Nat) => (⟨a + 6 * i, a + 6 * i + 1, a + 6 * i + 2, a + 6 * i + 3, a + 6 * i + 4, markT (a + 6 * i + 5)⟩ : Fr)) := by
  unfold laws_markFrameS.f
  have := mark_loop0 (l := l) (f := fun i => (⟨a + 6 * i, a + 6 * i + 1, a + 6 * i + 2, a + 6 * i + 3, a + 6 * i + 4, markT (a + 6 * i + 5)⟩ : Fr)) (w := fun i => a + 6 * i) (c := 40) (L := fun k acc w i => laws_markFrameS.l0 k acc w i) (fin := fun acc => (a + 6 * l.length, acc)) (fun k i acc hi hacc hk => ?_) (fun k acc hacc => ?_) k (by omega)
  · simp only [Int.natCast_zero, Int.mul_zero, Int.add_zero] at this; exact this
  · simp only [laws_markFrameS.l0, Option.bind_some]
    rw [if_pos (by omega), if_pos (by omega), wrap_succ hi (by omega), Int.toNat_natCast]
    have w1 : wrap64 (a + 6 * (i : Int) + 1) = a + 6 * i + 1 := wrap_id (by omega) (by omega)
    have w2 : wrap64 (a + 6 * (i : Int) + 1 + 1) = a + 6 * i + 2 := by rw [wrap_id (by omega) (by omega)]; omega
    have w3 : wrap64 (a + 6 * (i : Int) + 2 + 1) = a + 6 * i + 3 := by rw [wrap_id (by omega) (by omega)]; omega
    have w4 : wrap64 (a + 6 * (i : Int) + 3 + 1) = a + 6 * i + 4 := by rw [wrap_id (by omega) (by omega)]; omega
    have w5 : wrap64 (a + 6 * (i : Int) + 4 + 1) = a + 6 * i + 5 := by rw [wrap_id (by omega) (by omega)]; omega
    have w6 : wrap64 (a + 6 * (i : Int) + 5 + 1) = a + 6 * ((i + 1 : Nat) : Int) := by rw [wrap_id (by omega) (by omega)]; omega
    simp only [w1, w2, w3, w4, w5, w6]
    have hr : ∀ v : Fr, rd_T33 (acc.set i v) (i : Int) = v := fun v => by rw [rdFr _ i (by simp; omega), List.getElem_set_self]
    simp only [hr, List.set_set]
    rw [markText _ (by omega) k (by omega), Option.bind_some]
  · simp only [laws_markFrameS.l0]
    rw [if_neg (by omega)]
end Go.Proofs.Ytjlmfnpgcmmdnaa.C
namespace Go.Proofs.Ytjlmfnpgcmmdnaa.V
open Go.RowKit Go.Proofs.Ytjlmfnpgcmmdnaa.P Go.Proofs.Ytjlmfnpgcmmdnaa.C Go.Proofs.Ytjlmfnpgcmmdnaa.G
theorem FnExactBusHeard : ∀ (l0 : List (S52)) (a1 : Int), (l0.length ≤ 9223372036854775807 ∧ ∀ y ∈ l0, ((Lit.int .i64 y.f0).wf = true ∧ (Lit.int .i64 y.f1).wf = true ∧ (Lit.int .i64 y.f2).wf = true ∧ (Lit.int .i64 y.f3).wf = true ∧ (Lit.int .i64 y.f4).wf = true ∧ y.f5.size ≤ 9223372036854775807)) → (Lit.int .i64 a1).wf = true → ∃ k, laws_FnExactBusHeard.f k l0 a1 = some true := by
  intro l a ⟨hl, hb⟩ _
  refine ⟨2200100, ?_⟩
  unfold laws_FnExactBusHeard.f
  obtain ⟨r, h, hr⟩ := szFrameS l hl (fun y hy => (hb y hy).2.2.2.2.2) 1048576 (by omega) 2200100 (by omega)
  rw [h, Option.bind_some]
  by_cases h2 : r < 0
  · rw [if_pos h2]
  rw [if_neg h2]
  have hm : (l.map toFr).length = l.length := by simp
  have hq := busHeard_len (l.map toFr) a
  have hj : ∀ k, 2200000 ≤ k → laws_FnExactBusHeard.j0 k l a (busHeard (l.map toFr) a) (busHeard (l.map toFr) a) false = some true := by
    intro k hk
    obtain ⟨k, rfl⟩ : ∃ j, k = j + 1 := ⟨k - 1, by omega⟩
    simp only [laws_FnExactBusHeard.j0]
    rw [if_neg (by decide), markIntS _ (by omega) 1 (by omega) k (by omega)]
    simp only [Option.bind_some]
    rw [heldIntS _ (by omega) 1 (by omega) k (by omega)]
    simp only [Option.bind_some]
    rw [if_neg (by omega), if_pos trivial, toFrameS l (by omega) k (by omega)]
    simp only [Option.bind_some]
    rw [iBusHeard _ a (by omega) k (by omega)]
    simp only [Option.bind_some]
    rw [eqIntS _ (by omega) k (by omega)]
    simp only [Option.bind_some]
    rw [if_pos (by trivial), if_neg (by omega), if_pos (by trivial)]
  rw [toFrameS l (by omega) _ (by omega)]
  simp only [Option.bind_some]
  rw [sBusHeard _ a (by omega) _ (by omega), iBusHeard _ a (by omega) _ (by omega)]
  simp only [Option.bind_some]
  rw [eqIntS _ (by omega) _ (by omega), eqFrameS _ (by omega) _ (by omega)]
  simp only [Option.bind_some, if_true]
  rw [markFrameS _ (by omega) 1 (by omega) _ (by omega)]
  simp only [Option.bind_some, Bool.not_true]
  rw [if_neg (by omega)]
  exact hj _ (by omega)
end Go.Proofs.Ytjlmfnpgcmmdnaa.V
namespace Go.Proofs.Ytjlmfnpgcmmdnaa.Args
open Go.ChangeShapes Go.WideShapes Go.Deep Go.Proofs.YtjlmfnpgcmmdnaaW.PrintWords
theorem trod_field {H : Type} {enc : TypeId × Value → H} {P : Program} {w : World} {base : Nat} {spare : Nat → Bool} {held : Bool} {fuel : Nat} {t : TypeId} {cs : List Value} {x : DataW H × List MemPlace} {fs : Array Field}
    (ht : P.underlying t = some (.struct fs)) (h : DataW.trod enc P w base spare held fuel t cs = some x) :
    cs.length = P.cellsOf t ∧ ∀ (i : Nat) (f : Field), fs[i]? = some f → ∃ n y, DataW.trod enc P w base spare held n f.type ((cs.drop f.offset).take (P.cellsOf f.type)) = some y := by
  obtain ⟨xs, n, rfl, _, hl, hx, hf⟩ := DataW.trod_struct ht h
  refine ⟨hl, fun i f hi => ⟨n, ?_⟩⟩
  have hi2 : i < fs.size := by
    rcases Nat.lt_or_ge i fs.size with h' | h'
    · exact h'
    · rw [Array.getElem?_eq_none h'] at hi; cases hi
  obtain ⟨y, hy⟩ : ∃ y, xs[i]? = some y := ⟨_, List.getElem?_eq_getElem (by omega)⟩
  exact ⟨y, by rw [hf i f hi, hy]⟩
theorem trod_at {H : Type} {enc : TypeId × Value → H} {P : Program} {w : World} {base : Nat} {spare : Nat → Bool} {held : Bool} {fuel : Nat} {t : TypeId} {cs : List Value} {x : DataW H × List MemPlace} {fs : Array Field}
    (ht : P.underlying t = some (.struct fs)) (h : DataW.trod enc P w base spare held fuel t cs = some x) (i : Nat) (ft : TypeId) (off sz : Nat) (cs' : List Value)
    (hf : ∃ f, fs[i]? = some f ∧ f.type = ft ∧ f.offset = off) (hw : P.cellsOf ft = sz) (hc : (cs.drop off).take sz = cs') : ∃ n y, DataW.trod enc P w base spare held n ft cs' = some y := by
  obtain ⟨f, h1, rfl, rfl⟩ := hf
  subst hw hc
  exact (trod_field ht h).2 i f h1
def Opens (P : Program) (t : TypeId) {α : Type} (d : Kd α) (B : α → Prop) : Prop :=
  ∀ {H : Type} {enc : TypeId × Value → H} {w : World} {base : Nat} {spare : Nat → Bool} {held : Bool} {fuel : Nat} {cs : List Value} {x : DataW H × List MemPlace},
    DataW.trod enc P w base spare held fuel t cs = some x → ∃ a, d.K w a cs ∧ B a
theorem open_row {H : Type} {enc : TypeId × Value → H} {P : Program} {w : World} {base : Nat} {spare : Nat → Bool} {held : Bool} {fuel : Nat} {t e : TypeId} {c : Value} {x : DataW H × List MemPlace} {α : Type} {d : Kd α} {B : α → Prop} (z : α)
    (ht : P.underlying t = some (.slice e)) (hsz : P.cellsOf e = d.sz) (he : Opens P e d B) (h : DataW.trod enc P w base spare held fuel t [c] = some x) :
    ∃ A cap l, c = .slice A l.length cap ∧ Kd.C d w A l.length l ∧ l.length ≤ cap ∧ l.length ≤ 9223372036854775807 ∧ ∀ y ∈ l, B y := by
  haveI : Inhabited α := ⟨z⟩
  rcases open_slice ht h with ⟨hc, _⟩ | ⟨a, len, cap, m, n, D, Pl, hc, _, hl, hm, hmm, _, hx⟩
  · obtain rfl := List.head_eq_of_cons_eq hc
    exact ⟨none, 0, [], rfl, Kd.C_nil _ _, Nat.le_refl _, by simp, fun y hy => by cases hy⟩
  · obtain rfl := List.head_eq_of_cons_eq hc
    have hlm : len ≤ m := by rw [hmm]; split <;> omega
    obtain ⟨f, hf⟩ := choose_lt (α := α) (n := len) (p := fun i y => (∃ c', c'.length = d.sz ∧ d.K w y c' ∧ ∀ k u, c'[k]? = some u → w.cell? (a.add (i * d.sz + k)) = some u) ∧ B y) (fun i hi => by
      obtain ⟨cs', h1, h2⟩ := hx i (by omega)
      obtain ⟨y, hk, hb⟩ := he h2
      refine ⟨y, ⟨cs', d.K_len hk, hk, fun k u hu => ?_⟩, hb⟩
      obtain ⟨_, hlen, hcell⟩ := World.cells?_some h1
      have hk2 : k < cs'.length := (List.getElem?_eq_some_iff.1 hu).1
      have := hcell k (by omega)
      rw [hsz, Addr.add_add] at this
      rw [this, hu])
    have hmax : len ≤ 9223372036854775807 := by unfold maxLen at hm; omega
    refine ⟨some a, cap, (List.range len).map f, by simp, ⟨by simp, by simpa using hmax, fun _ => ⟨a, rfl, fun j p hj => ?_⟩⟩, by simpa using hl, by simpa using hmax, fun y hy => ?_⟩
    · have hj2 : j < len := by simpa using (List.getElem?_eq_some_iff.1 hj).1
      rw [List.getElem?_map, List.getElem?_range hj2] at hj
      obtain rfl := Option.some.inj hj
      exact (hf j hj2).1
    · obtain ⟨j, hj, rfl⟩ := List.mem_map.1 hy
      exact (hf j (List.mem_range.1 hj)).2
end Go.Proofs.Ytjlmfnpgcmmdnaa.Args
