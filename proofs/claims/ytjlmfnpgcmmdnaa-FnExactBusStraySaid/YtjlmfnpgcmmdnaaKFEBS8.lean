/- Texts of the seat's proofs, part 8: functions of the program told as plain functions, with their contracts, and what is shown of them. No condition. -/
import Derived.Test.YtjlmfnpgcmmdnaaUKFEBS
import Derived.Test.YtjlmfnpgcmmdnaaKFEBS1
import Derived.Test.YtjlmfnpgcmmdnaaKFEBS4
import Derived.Test.YtjlmfnpgcmmdnaaKFEBS7
import Derived.Test.YtjlmfnpgcmmdnaaKFEBS3
import Derived.Test.YtjlmfnpgcmmdnaaKFEBS5
import Derived.Test.YtjlmfnpgcmmdnaaKFEBS2
import Derived.Test.YtjlmfnpgcmmdnaaKFEBS6
import Derived.Deep.Slices
import Derived.ProofKit
import Derived.OpenShut
set_option linter.unusedVariables false
set_option linter.unusedSimpArgs false
namespace Go.Proofs.Ytjlmfnpgcmmdnaa.P
open Go.RowKit Go.Proofs.YtjlmfnpgcmmdnaaW.PrintWords Go.Proofs.YtjlmfnpgcmmdnaaW.PrintLast Go.Proofs.YtjlmfnpgcmmdnaaW.PrintMore
attribute [local go_sem] max2_int min2_int max_two min_two max_three min_three max_four min_four
set_option linter.unusedVariables false
set_option linter.unusedSimpArgs false
end Go.Proofs.Ytjlmfnpgcmmdnaa.P

namespace Go.Proofs.Ytjlmfnpgcmmdnaa.C
open Go.RowKit Go.Proofs.Ytjlmfnpgcmmdnaa.P Go.Proofs.Ytjlmfnpgcmmdnaa.G Go.Proofs.YtjlmfnpgcmmdnaaW.PrintWords
def wh (g : Nat → Bool) : Nat → List Int
  | 0 => []
  | i + 1 => if g i = true then wh g i ++ [(i : Int)] else wh g i
theorem wh_len (g : Nat → Bool) : ∀ n, (wh g n).length ≤ n := by
  intro n
  induction n with
  | zero => simp [wh]
  | succ n ih =>
    rw [wh]; split
    · rw [List.length_append, List.length_singleton]; omega
    · omega
theorem iPlaces (p : Fr → Option Bool) (g : Nat → Bool) (l : List Fr) (hl : l.length ≤ 1048576) (hp : ∀ i (hi : i < l.length), p l[i] = some (g i)) (k : Nat) (hk : l.length < k) :
    impl_places_Frame.f p k l = some (wh g l.length) := by
  unfold impl_places_Frame.f
  refine track_loop0 (n := l.length) (c := 0) (σ := List Int) (F := fun i => wh g i) (L := fun k s i => impl_places_Frame.l0 p k s l (l.length : Int) i) (r := wh g l.length) (fun k i hi hk => ?_) (fun k hk => ?_) k (by omega)
  · simp only [impl_places_Frame.l0]
    have := wh_len g i
    rw [if_pos (by omega), if_pos (by omega), if_pos (by omega), rdFr l i hi, hp i hi, Option.bind_some, wrap_succ hi (by omega), wh]
    cases g i with
    | true => rw [if_pos rfl, if_pos (by omega), if_pos rfl]
    | false => rw [if_neg (by decide), if_neg (by decide)]
  · simp only [impl_places_Frame.l0]
    rw [if_neg (by omega)]
def strayIs (st gap : Int) (p : List Sl) (l : List Fr) (i : Nat) : Bool := match l[i]? with
  | some x => !((inSlot st gap p x.f0 x.f3 x.f4).2.2 && (inSlot st gap p x.f0 x.f3 x.f4).1 == x.f1 && (inSlot st gap p x.f0 x.f3 x.f4).2.1 == x.f2)
  | none => false
theorem strayIs_eq (st gap : Int) (p : List Sl) (l : List Fr) (i : Nat) (hi : i < l.length) : strayIs st gap p l i = !((inSlot st gap p l[i].f0 l[i].f3 l[i].f4).2.2 && (inSlot st gap p l[i].f0 l[i].f3 l[i].f4).1 == l[i].f1 && (inSlot st gap p l[i].f0 l[i].f3 l[i].f4).2.1 == l[i].f2) := by
  unfold strayIs; rw [List.getElem?_eq_getElem hi]
def busStray (st gap : Int) (p : List Sl) (l : List Fr) : List Int := if planOk st gap p = true then (if busOk l = true then wh (strayIs st gap p l) l.length else []) else []
theorem busStray_len (st gap : Int) (p : List Sl) (l : List Fr) : (busStray st gap p l).length ≤ 60 := by
  unfold busStray; split
  · split
    · rename_i h
      have := busOk_len h
      have := wh_len (strayIs st gap p l) l.length
      omega
    · simp
  · simp
theorem iStray1 (st gap : Int) (p : List Sl) (hp : p.length ≤ 1048576) (l : List Fr) (i : Nat) (hi : i < l.length) (k : Nat) (hk : 1050200 ≤ k) : impl_BusStray_1.f k st gap p l[i] = some (strayIs st gap p l i) := by
  unfold impl_BusStray_1.f
  rw [iInSlot st gap p hp _ _ _ k hk, Option.bind_some, strayIs_eq st gap p l i hi]
  generalize inSlot st gap p l[i].f0 l[i].f3 l[i].f4 = q
  obtain ⟨q0, q1, q2⟩ := q
  dsimp only
  cases q2 with
  | true =>
    rw [if_pos rfl, Bool.true_and]
    by_cases h1 : q0 = l[i].f1
    · rw [if_pos h1, h1, beq_self_eq_true, Bool.true_and]
      by_cases h2 : q1 = l[i].f2
      · rw [if_pos h2, h2, beq_self_eq_true]; rfl
      · rw [if_neg h2, beq_eq_false_iff_ne.2 h2]; rfl
    · rw [if_neg h1, beq_eq_false_iff_ne.2 h1, Bool.false_and]; rfl
  | false => rw [if_neg (by decide), Bool.false_and, Bool.false_and]; rfl
theorem iBusStray (st gap : Int) (p : List Sl) (hp : p.length ≤ 1048576) (l : List Fr) (hl : l.length ≤ 1048576) (k : Nat) (hk : 1050200 ≤ k) : impl_BusStray.f k st gap p l = some (busStray st gap p l) := by
  unfold impl_BusStray.f busStray
  rw [iPlanOk st gap p hp k (by omega), Option.bind_some]
  cases planOk st gap p with
  | true =>
    rw [if_pos rfl, if_pos rfl, iBusOk l hl k (by omega), Option.bind_some]
    cases h : busOk l with
    | true =>
      rw [if_pos rfl, if_pos rfl]
      exact iPlaces _ (strayIs st gap p l) l hl (fun i hi => iStray1 st gap p hp l i hi k hk) k (by omega)
    | false => rw [if_neg (by decide), if_neg (by decide)]
  | false => rw [if_neg (by decide), if_neg (by decide)]
theorem sBusStray (st gap : Int) (p : List Sl) (hp : p.length ≤ 1048576) (l : List Fr) (hl : l.length ≤ 1048576) (k : Nat) (hk : 1050300 ≤ k) : spec_BusStray.f k st gap p l = some (busStray st gap p l) := by
  unfold spec_BusStray.f busStray
  rw [Option.bind_some, sPlanOk st gap p hp k (by omega), Option.bind_some]
  obtain ⟨k, rfl⟩ : ∃ j, k = j + 1 := ⟨k - 1, by omega⟩
  cases planOk st gap p with
  | true =>
    rw [if_pos rfl, if_pos rfl, sBusOk l hl (k + 1) (by omega), Option.bind_some]
    simp only [spec_BusStray.j0]
    cases h : busOk l with
    | false => rw [Bool.not_false, if_pos rfl, if_neg (by decide)]
    | true =>
      rw [Bool.not_true, if_neg (by decide), if_pos rfl]
      have hb := busOk_len h
      refine track_loop0 (n := l.length) (c := 1050200) (σ := List Int) (F := fun i => wh (strayIs st gap p l) i) (L := fun k s i => spec_BusStray.l0 k l s i st gap p) (r := wh (strayIs st gap p l) l.length) (fun k i hi hk => ?_) (fun k hk => ?_) k (by omega)
      · simp only [spec_BusStray.l0]
        have := wh_len (strayIs st gap p l) i
        rw [if_pos (by omega), if_pos (by omega), rdFr l i hi, sInSlot st gap p hp _ _ _ k (by omega), Option.bind_some, wrap_succ hi (by omega), wh, strayIs_eq st gap p l i hi]
        generalize inSlot st gap p l[i].f0 l[i].f3 l[i].f4 = q
        obtain ⟨q0, q1, q2⟩ := q
        dsimp only
        cases q2 with
        | true =>
          rw [if_pos rfl, Bool.true_and]
          by_cases h1 : q0 = l[i].f1
          · rw [if_pos h1, h1, beq_self_eq_true, Bool.true_and]
            by_cases h2 : q1 = l[i].f2
            · rw [if_pos h2, h2, beq_self_eq_true, Bool.not_true, if_neg (by decide)]
            · rw [if_neg h2, beq_eq_false_iff_ne.2 h2, Bool.not_false, if_pos (by omega), if_pos rfl]
          · rw [if_neg h1, beq_eq_false_iff_ne.2 h1, Bool.false_and, Bool.not_false, if_pos (by omega), if_pos rfl]
        | false => rw [if_neg (by decide), Bool.false_and, Bool.false_and, Bool.not_false, if_pos (by omega), if_pos rfl]
      · simp only [spec_BusStray.l0]
        rw [if_neg (by omega)]
  | false =>
    rw [if_neg (by decide), if_neg (by decide)]
    simp only [spec_BusStray.j0]
    rw [if_pos trivial]
theorem rdI (l : List Int) (i : Nat) (h : i < l.length) : rd l (i : Int) = l[i] := by
  unfold rd; simp [List.getD, h]
theorem markIntS (l : List Int) (hl : l.length ≤ 2000000) (a : Int) (ha : 0 ≤ a ∧ a ≤ 1000000000) (k : Nat) (hk : l.length < k) : laws_markIntS.f k l a = some (a + l.length, (List.range l.length).map fun (i : Nat) => a + i) := by
  unfold laws_markIntS.f
  have := mark_loop0 (l := l) (f := fun i => a + i) (w := fun i => a + i) (c := 0) (L := fun k acc w i => laws_markIntS.l0 k acc w i) (fin := fun acc => (a + l.length, acc)) (fun k i acc hi hacc _ => ?_) (fun k acc hacc => ?_) k (by omega)
  · simp only [Int.natCast_zero, Int.add_zero] at this; exact this
  · simp only [laws_markIntS.l0]
    rw [if_pos (by omega), if_pos (by omega), wrap_succ hi (by omega), wrap_id (by omega) (by omega), Int.toNat_natCast]
    congr 1; omega
  · simp only [laws_markIntS.l0]
    rw [if_neg (by omega)]
theorem heldIntS (n : Nat) (hn : n ≤ 2000000) (a : Int) (ha : 0 ≤ a ∧ a ≤ 1000000000) (k : Nat) (hk : n < k) : laws_heldIntS.f k ((List.range n).map fun (i : Nat) => a + i) a = some (a + n) := by
  unfold laws_heldIntS.f
  have hlen : ((List.range n).map fun (i : Nat) => a + (i : Int)).length = n := by simp
  have := track_loop0 (n := n) (c := 0) (L := fun k s i => laws_heldIntS.l0 k ((List.range n).map fun (i : Nat) => a + i) s i) (F := fun i => a + (i : Int)) (r := a + n) (fun k i hi _ => ?_) (fun k _ => ?_) k (by omega)
  · simp only [Int.natCast_zero, Int.add_zero] at this; exact this
  · simp only [laws_heldIntS.l0]
    rw [if_pos (by omega), if_pos (by omega), rdI _ i (by omega), wrap_succ hi (by omega), wrap_id (by omega) (by omega), if_pos (by simp)]
    congr 1; omega
  · simp only [laws_heldIntS.l0]
    rw [if_neg (by omega)]
theorem eqIntS (l : List Int) (hl : l.length ≤ 2000000) (k : Nat) (hk : l.length < k) : laws_eqIntS.f k l l = some true := by
  unfold laws_eqIntS.f
  rw [if_pos rfl]
  refine all_loopT (n := l.length) (L := fun k i => laws_eqIntS.l0 k l l i) (fun k i hi => ?_) (fun k => ?_) k hk
  · simp only [laws_eqIntS.l0]
    rw [if_pos (by omega), if_pos (by omega), if_pos (by omega), wrap_succ hi (by omega), if_pos (by trivial)]
  · simp only [laws_eqIntS.l0]
    rw [if_neg (by omega)]
def digits : Nat → Int → ByteArray → ByteArray
  | 0, _, s => s
  | d + 1, x, s => if x > 0 then digits d (x / 10) ((strOfNums [(wrap64 (48 + (Int.tmod x 10))) % 256]) ++ s) else s
theorem nums_size (x : Int) : (strOfNums [x]).size = 1 := by unfold strOfNums; rfl
theorem pow10 (d : Nat) : (10 : Int) ^ (d + 1) = 10 * 10 ^ d := by rw [Int.pow_succ]; omega
theorem markL : ∀ (d : Nat) (x : Int) (s : ByteArray) (k : Nat), 0 ≤ x → x < 10 ^ d → x ≤ 9223372036854775807 → s.size + d ≤ 1000 → d < k → laws_markText.l0 k x s = some ((⟨#[109]⟩ : ByteArray) ++ digits d x s) := by
  intro d
  induction d with
  | zero =>
    intro x s k h0 h1 h2 h3 hk
    obtain ⟨k, rfl⟩ : ∃ j, k = j + 1 := ⟨k - 1, by omega⟩
    simp only [laws_markText.l0, digits]
    rw [if_neg (by simp at h1; omega), if_pos (by omega)]
  | succ d ih =>
    intro x s k h0 h1 h2 h3 hk
    obtain ⟨k, rfl⟩ : ∃ j, k = j + 1 := ⟨k - 1, by omega⟩
    simp only [laws_markText.l0, digits]
    by_cases h : x > 0
    · rw [pow10] at h1
      have hd : x / 10 ≤ x := Int.ediv_le_self _ h0
      rw [if_pos h, if_pos h, Option.bind_some, if_pos (by rw [nums_size]; omega), Int.tdiv_eq_ediv_of_nonneg h0, wrap_id (x := x / 10) (by omega) (by omega)]
      exact ih _ _ k (by omega) (by omega) (by omega) (by rw [ByteArray.size_append, nums_size]; omega) (by omega)
    · rw [if_neg h, if_neg h, if_pos (by omega)]
def markT (x : Int) : ByteArray := if x ≤ 0 then (⟨#[109, 48]⟩ : ByteArray) else (⟨#[109]⟩ : ByteArray) ++ digits 30 x (⟨#[]⟩ : ByteArray)
theorem markText (x : Int) (hx : x ≤ 9223372036854775807) (k : Nat) (hk : 40 ≤ k) : laws_markText.f k x = some (markT x) := by
  unfold laws_markText.f markT
  split
  · rfl
  · have hp : (9223372036854775807 : Int) < 10 ^ 30 := by decide
    rw [markL 30 x _ k (by omega) (by omega) hx (by decide) (by omega)]
theorem markFrameS (l : List Fr) (hl : l.length ≤ 2000000) (a : Int) (ha : 0 ≤ a ∧ a ≤ 1000000000) (k : Nat) (hk : l.length + 50 < k) :
    laws_markFrameS.f k l a = some (a + 6 * l.length, (List.range l.length).map fun (i : Nat) => (⟨a + 6 * i, a + 6 * i + 1, a + 6 * i + 2, a + 6 * i + 3, a + 6 * i + 4, markT (a + 6 * i + 5)⟩ : Fr)) := by
  unfold laws_markFrameS.f
  have := mark_loop0 (l := l) (f := fun i => (⟨a + 6 * i, a + 6 * i + 1, a + 6 * i + 2, a + 6 * i + 3, a + 6 * i + 4, markT (a + 6 * i + 5)⟩ : Fr)) (w := fun i => a + 6 * i) (c := 40) (L := fun k acc w i => laws_markFrameS.l0 k acc w i) (fin := fun acc => (a + 6 * l.length, acc)) (fun k i acc hi hacc hk => ?_) (fun k acc hacc => ?_) k (by omega)
  · simp only [Int.natCast_zero, Int.mul_zero, Int.add_zero] at this; exact this
  · simp only [laws_markFrameS.l0, Option.bind_some]
    rw [if_pos (by omega), if_pos (by omega), wrap_succ hi (by omega), Int.toNat_natCast]
    have w1 : wrap64 (a + 6 * (i : Int) + 1) = a + 6 * i + 1 := wrap_id (by omega) (by omega)
    have w2 : wrap64 (a + 6 * (i : Int) + 1 + 1) = a + 6 * i + 2 := by rw [wrap_id (by omega) (by omega)]; omega
    have w3 : wrap64 (a + 6 * (i : Int) + 2 + 1) = a + 6 * i + 3 := by rw [wrap_id (by omega) (by omega)]; omega
    have w4 : wrap64 (a + 6 * (i : Int) + 3 + 1) = a + 6 * i + 4 := by rw [wrap_id (by omega) (by omega)]; omega
    have w5 : wrap64 (a + 6 * (i : Int) + 4 + 1) = a + 6 * i + 5 := by rw [wrap_id (by omega) (by omega)]; omega
    have w6 : wrap64 (a + 6 * (i : Int) + 5 + 1) = a + 6 * ((i + 1 : Nat) : Int) := by rw [wrap_id (by omega) (by omega)]; omega
    simp only [w1, w2, w3, w4, w5, w6]
    have hr : ∀ v : Fr, rd_T33 (acc.set i v) (i : Int) = v := fun v => by rw [rdFr _ i (by simp; omega), List.getElem_set_self]
    simp only [hr, List.set_set]
    rw [markText _ (by omega) k (by omega), Option.bind_some]
  · simp only [laws_markFrameS.l0]
    rw [if_neg (by omega)]
theorem markSlotS (l : List Sl) (hl : l.length ≤ 2000000) (a : Int) (ha : 0 ≤ a ∧ a ≤ 1000000000) (k : Nat) (hk : l.length < k) : laws_markSlotS.f k l a = some (a + 2 * l.length, (List.range l.length).map fun (i : Nat) => (⟨a + 2 * i, a + 2 * i + 1⟩ : Sl)) := by
  unfold laws_markSlotS.f
  have := mark_loop0 (l := l) (f := fun i => (⟨a + 2 * i, a + 2 * i + 1⟩ : Sl)) (w := fun i => a + 2 * i) (c := 0) (L := fun k acc w i => laws_markSlotS.l0 k acc w i) (fin := fun acc => (a + 2 * l.length, acc)) (fun k i acc hi hacc _ => ?_) (fun k acc hacc => ?_) k (by omega)
  · simp only [Int.natCast_zero, Int.mul_zero, Int.add_zero] at this; exact this
  · simp only [laws_markSlotS.l0, Option.bind_some]
    rw [if_pos (by omega), if_pos (by omega), wrap_succ hi (by omega), Int.toNat_natCast, rdSl (acc.set i _) i (by simp; omega), List.getElem_set_self, List.set_set, wrap_id (x := a + 2 * (i : Int) + 1) (by omega) (by omega), wrap_id (x := a + 2 * (i : Int) + 1 + 1) (by omega) (by omega)]
    congr 1; omega
  · simp only [laws_markSlotS.l0]
    rw [if_neg (by omega)]
theorem markPlan (x y : Int) (l : List Sl) (hl : l.length ≤ 2000000) (a : Int) (ha : 0 ≤ a ∧ a ≤ 1000000000) (k : Nat) (hk : l.length < k) : laws_markPlan.f k x y l a = some (a + 2 * l.length, (List.range l.length).map fun (i : Nat) => (⟨a + 2 * i, a + 2 * i + 1⟩ : Sl)) := by
  unfold laws_markPlan.f; rw [markSlotS l hl a ha k hk]; rfl
end Go.Proofs.Ytjlmfnpgcmmdnaa.C
namespace Go.Proofs.Ytjlmfnpgcmmdnaa.V
open Go.RowKit Go.Proofs.Ytjlmfnpgcmmdnaa.P Go.Proofs.Ytjlmfnpgcmmdnaa.C Go.Proofs.Ytjlmfnpgcmmdnaa.G
theorem FnExactBusStray : ∀ (a0_0 : Int) (a0_1 : Int) (l0_2 : List (S110)) (l1 : List (S52)), (Lit.int .i64 a0_0).wf = true → (Lit.int .i64 a0_1).wf = true → (l0_2.length ≤ 9223372036854775807 ∧ ∀ y ∈ l0_2, ((Lit.int .i64 y.f0).wf = true ∧ (Lit.int .i64 y.f1).wf = true)) → (l1.length ≤ 9223372036854775807 ∧ ∀ y ∈ l1, ((Lit.int .i64 y.f0).wf = true ∧ (Lit.int .i64 y.f1).wf = true ∧ (Lit.int .i64 y.f2).wf = true ∧ (Lit.int .i64 y.f3).wf = true ∧ (Lit.int .i64 y.f4).wf = true ∧ y.f5.size ≤ 9223372036854775807)) → ∃ k, laws_FnExactBusStray.f k a0_0 a0_1 l0_2 l1 = some true := by
  intro st gap p l _ _ ⟨hpl, _⟩ ⟨hl, hb⟩
  refine ⟨2200100, ?_⟩
  unfold laws_FnExactBusStray.f
  rcases szPlan st gap p hpl 1048576 (by omega) with h | ⟨h, hs⟩
  · rw [h]; simp
  rw [h, Option.bind_some, if_neg (by omega)]
  obtain ⟨r, h3, hr⟩ := szFrameS l hl (fun y hy => (hb y hy).2.2.2.2.2) (1048576 - p.length) (by omega) 2200100 (by omega)
  rw [h3, Option.bind_some]
  by_cases h2 : r < 0
  · rw [if_pos h2]
  rw [if_neg h2]
  have hm : (l.map toFr).length = l.length := by simp
  have hmp : (p.map toSl).length = p.length := by simp
  have hu := busStray_len st gap (p.map toSl) (l.map toFr)
  have hS : ∀ k, 1050300 ≤ k → spec_BusStray.f k st gap (p.map toSl) (l.map toFr) = some (busStray st gap (p.map toSl) (l.map toFr)) := fun k hk => sBusStray st gap _ (by omega) _ (by omega) k hk
  have hI : ∀ k, 1050300 ≤ k → impl_BusStray.f k st gap (p.map toSl) (l.map toFr) = some (busStray st gap (p.map toSl) (l.map toFr)) := fun k hk => iBusStray st gap _ (by omega) _ (by omega) k (by omega)
  generalize busStray st gap (p.map toSl) (l.map toFr) = q at hu hS hI
  have hj : ∀ k, 2200000 ≤ k → laws_FnExactBusStray.j0 k l q q false st gap p = some true := by
    intro k hk
    obtain ⟨k, rfl⟩ : ∃ j, k = j + 1 := ⟨k - 1, by omega⟩
    simp only [laws_FnExactBusStray.j0]
    rw [if_neg (by decide), markIntS _ (by omega) 1 (by omega) k (by omega)]
    simp only [Option.bind_some]
    rw [heldIntS _ (by omega) 1 (by omega) k (by omega)]
    simp only [Option.bind_some]
    rw [if_neg (by omega), if_pos trivial, toPlan st gap p (by omega) k (by omega)]
    simp only [Option.bind_some]
    rw [toFrameS l (by omega) k (by omega)]
    simp only [Option.bind_some]
    rw [hI k (by omega)]
    simp only [Option.bind_some]
    rw [eqIntS _ (by omega) k (by omega)]
    simp only [Option.bind_some]
    rw [if_pos (by trivial), if_neg (by omega), if_pos (by trivial)]
  rw [toPlan st gap p (by omega) _ (by omega)]
  simp only [Option.bind_some]
  rw [toFrameS l (by omega) _ (by omega)]
  simp only [Option.bind_some]
  rw [hS _ (by omega), hI _ (by omega)]
  simp only [Option.bind_some]
  rw [eqIntS _ (by omega) _ (by omega), eqPlan _ _ _ (by omega) _ (by omega), eqFrameS _ (by omega) _ (by omega)]
  simp only [Option.bind_some, if_true]
  rw [markPlan _ _ _ (by omega) 1 (by omega) _ (by omega)]
  simp only [Option.bind_some]
  rw [markFrameS _ (by omega) _ (by omega) _ (by omega)]
  simp only [Option.bind_some, Bool.not_true]
  rw [if_neg (by omega)]
  exact hj _ (by omega)
end Go.Proofs.Ytjlmfnpgcmmdnaa.V
namespace Go.Proofs.Ytjlmfnpgcmmdnaa.Args
open Go.ChangeShapes Go.WideShapes Go.Deep Go.Proofs.YtjlmfnpgcmmdnaaW.PrintWords
theorem trod_field {H : Type} {enc : TypeId × Value → H} {P : Program} {w : World} {base : Nat} {spare : Nat → Bool} {held : Bool} {fuel : Nat} {t : TypeId} {cs : List Value} {x : DataW H × List MemPlace} {fs : Array Field}
    (ht : P.underlying t = some (.struct fs)) (h : DataW.trod enc P w base spare held fuel t cs = some x) :
    cs.length = P.cellsOf t ∧ ∀ (i : Nat) (f : Field), fs[i]? = some f → ∃ n y, DataW.trod enc P w base spare held n f.type ((cs.drop f.offset).take (P.cellsOf f.type)) = some y := by
  obtain ⟨xs, n, rfl, _, hl, hx, hf⟩ := DataW.trod_struct ht h
  refine ⟨hl, fun i f hi => ⟨n, ?_⟩⟩
  have hi2 : i < fs.size := by
    rcases Nat.lt_or_ge i fs.size with h' | h'
    · exact h'
    · rw [Array.getElem?_eq_none h'] at hi; cases hi
  obtain ⟨y, hy⟩ : ∃ y, xs[i]? = some y := ⟨_, List.getElem?_eq_getElem (by omega)⟩
  exact ⟨y, by rw [hf i f hi, hy]⟩
theorem trod_at {H : Type} {enc : TypeId × Value → H} {P : Program} {w : World} {base : Nat} {spare : Nat → Bool} {held : Bool} {fuel : Nat} {t : TypeId} {cs : List Value} {x : DataW H × List MemPlace} {fs : Array Field}
    (ht : P.underlying t = some (.struct fs)) (h : DataW.trod enc P w base spare held fuel t cs = some x) (i : Nat) (ft : TypeId) (off sz : Nat) (cs' : List Value)
    (hf : ∃ f, fs[i]? = some f ∧ f.type = ft ∧ f.offset = off) (hw : P.cellsOf ft = sz) (hc : (cs.drop off).take sz = cs') : ∃ n y, DataW.trod enc P w base spare held n ft cs' = some y := by
  obtain ⟨f, h1, rfl, rfl⟩ := hf
  subst hw hc
  exact (trod_field ht h).2 i f h1
def Opens (P : Program) (t : TypeId) {α : Type} (d : Kd α) (B : α → Prop) : Prop :=
  ∀ {H : Type} {enc : TypeId × Value → H} {w : World} {base : Nat} {spare : Nat → Bool} {held : Bool} {fuel : Nat} {cs : List Value} {x : DataW H × List MemPlace},
    DataW.trod enc P w base spare held fuel t cs = some x → ∃ a, d.K w a cs ∧ B a
theorem open_row {H : Type} {enc : TypeId × Value → H} {P : Program} {w : World} {base : Nat} {spare : Nat → Bool} {held : Bool} {fuel : Nat} {t e : TypeId} {c : Value} {x : DataW H × List MemPlace} {α : Type} {d : Kd α} {B : α → Prop} (z : α)
    (ht : P.underlying t = some (.slice e)) (hsz : P.cellsOf e = d.sz) (he : Opens P e d B) (h : DataW.trod enc P w base spare held fuel t [c] = some x) :
    ∃ A cap l, c = .slice A l.length cap ∧ Kd.C d w A l.length l ∧ l.length ≤ cap ∧ l.length ≤ 9223372036854775807 ∧ ∀ y ∈ l, B y := by
  haveI : Inhabited α := ⟨z⟩
  rcases open_slice ht h with ⟨hc, _⟩ | ⟨a, len, cap, m, n, D, Pl, hc, _, hl, hm, hmm, _, hx⟩
  · obtain rfl := List.head_eq_of_cons_eq hc
    exact ⟨none, 0, [], rfl, Kd.C_nil _ _, Nat.le_refl _, by simp, fun y hy => by cases hy⟩
  · obtain rfl := List.head_eq_of_cons_eq hc
    have hlm : len ≤ m := by rw [hmm]; split <;> omega
    obtain ⟨f, hf⟩ := choose_lt (α := α) (n := len) (p := fun i y => (∃ c', c'.length = d.sz ∧ d.K w y c' ∧ ∀ k u, c'[k]? = some u → w.cell? (a.add (i * d.sz + k)) = some u) ∧ B y) (fun i hi => by
      obtain ⟨cs', h1, h2⟩ := hx i (by omega)
      obtain ⟨y, hk, hb⟩ := he h2
      refine ⟨y, ⟨cs', d.K_len hk, hk, fun k u hu => ?_⟩, hb⟩
      obtain ⟨_, hlen, hcell⟩ := World.cells?_some h1
      have hk2 : k < cs'.length := (List.getElem?_eq_some_iff.1 hu).1
      have := hcell k (by omega)
      rw [hsz, Addr.add_add] at this
      rw [this, hu])
    have hmax : len ≤ 9223372036854775807 := by unfold maxLen at hm; omega
    refine ⟨some a, cap, (List.range len).map f, by simp, ⟨by simp, by simpa using hmax, fun _ => ⟨a, rfl, fun j p hj => ?_⟩⟩, by simpa using hl, by simpa using hmax, fun y hy => ?_⟩
    · have hj2 : j < len := by simpa using (List.getElem?_eq_some_iff.1 hj).1
      rw [List.getElem?_map, List.getElem?_range hj2] at hj
      obtain rfl := Option.some.inj hj
      exact (hf j hj2).1
    · obtain ⟨j, hj, rfl⟩ := List.mem_map.1 hy
      exact (hf j (List.mem_range.1 hj)).2
end Go.Proofs.Ytjlmfnpgcmmdnaa.Args
