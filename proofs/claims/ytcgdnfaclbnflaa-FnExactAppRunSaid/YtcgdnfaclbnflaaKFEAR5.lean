/- Texts of the seat's proofs, part 5: functions of the program told as plain functions, with their contracts, and what is shown of them. No condition. -/
import Derived.Test.YtcgdnfaclbnflaaUKFEAR
import Derived.Test.YtcgdnfaclbnflaaKFEAR4
import Derived.Test.YtcgdnfaclbnflaaKFEAR2
import Derived.Test.YtcgdnfaclbnflaaKFEAR3
import Derived.Test.YtcgdnfaclbnflaaKFEAR1
import Derived.Deep.Slices
import Derived.ProofKit
import Derived.OpenShut
set_option linter.unusedVariables false
set_option linter.unusedSimpArgs false
namespace Go.Proofs.Ytcgdnfaclbnflaa.G
open Go.RowKit Go.Proofs.YtcgdnfaclbnflaaW.PrintWords
theorem mark_loop {α ρ : Type} {l : List α} {f : Nat → α} {w : Nat → Int} {L : Nat → List α → Int → Int → Option ρ} {fin : List α → ρ} {c : Nat}
    (hs : ∀ k i acc, i < l.length → acc.length = l.length → c ≤ k → L (k + 1) acc (w i) (i : Int) = L k (acc.set i (f i)) (w (i + 1)) ((i + 1 : Nat) : Int))
    (he : ∀ k acc, acc.length = l.length → L (k + 1) acc (w l.length) (l.length : Int) = some (fin acc)) :
    ∀ d i k, i + d = l.length → d + c < k → L k ((List.range i).map f ++ l.drop i) (w i) (i : Int) = some (fin ((List.range l.length).map f)) := by
  intro d
  induction d with
  | zero =>
    intro i k h hk
    obtain ⟨k, rfl⟩ : ∃ m, k = m + 1 := ⟨k - 1, by omega⟩
    obtain rfl : i = l.length := by omega
    rw [he _ _ (by simp)]; simp
  | succ d ih =>
    intro i k h hk
    obtain ⟨k, rfl⟩ : ∃ m, k = m + 1 := ⟨k - 1, by omega⟩
    have hi : i < l.length := by omega
    rw [hs _ _ _ hi (by simp; omega) (by omega), ← ih (i + 1) k (by omega) (by omega)]
    congr 1
    have hl : ((List.range i).map f).length = i := by simp
    rw [List.set_append, if_neg (by omega), hl, Nat.sub_self, List.drop_eq_getElem_cons hi, List.set_cons_zero, List.range_succ, List.map_append, List.append_assoc]
    rfl
theorem mark_loop0 {α ρ : Type} {l : List α} {f : Nat → α} {w : Nat → Int} {L : Nat → List α → Int → Int → Option ρ} {fin : List α → ρ} {c : Nat}
    (hs : ∀ k i acc, i < l.length → acc.length = l.length → c ≤ k → L (k + 1) acc (w i) (i : Int) = L k (acc.set i (f i)) (w (i + 1)) ((i + 1 : Nat) : Int))
    (he : ∀ k acc, acc.length = l.length → L (k + 1) acc (w l.length) (l.length : Int) = some (fin acc)) (k : Nat) (hk : l.length + c < k) :
    L k l (w 0) 0 = some (fin ((List.range l.length).map f)) := by
  have := mark_loop hs he l.length 0 k (by omega) hk
  simpa using this
end Go.Proofs.Ytcgdnfaclbnflaa.G
namespace Go.Proofs.Ytcgdnfaclbnflaa.C
open Go.RowKit Go.Proofs.Ytcgdnfaclbnflaa.P Go.Proofs.Ytcgdnfaclbnflaa.G Go.Proofs.YtcgdnfaclbnflaaW.PrintWords
abbrev Lk := S83
abbrev Rg := S88
theorem rdLk (l : List Lk) (i : Nat) (h : i < l.length) : rd_T83 l (i : Int) = l[i] := by
  unfold rd_T83; simp [List.getD, h]
theorem rdRg (l : List Rg) (i : Nat) (h : i < l.length) : rd_T88 l (i : Int) = l[i] := by
  unfold rd_T88; simp [List.getD, h]
def mid (a b : Int) : Int := if Int.tmod (wrap64 (a + b)) 2 < 0 then wrap64 (wrap64 (Int.tdiv (wrap64 (a + b)) 2) - 1) else wrap64 (Int.tdiv (wrap64 (a + b)) 2)
def middle (a b : Int) : Int × Bool := if ivalOk a b = true then (mid a b, true) else (0, false)
theorem sMiddle (a b : Int) : spec_Middle.f a b = some (middle a b) := by
  unfold spec_Middle.f middle spec_l1Down.f mid
  rw [sIvalOk, Option.bind_some]
  cases ivalOk a b with
  | false => rw [if_neg (by decide), if_neg (by decide)]
  | true => rw [if_pos rfl, if_pos rfl, if_neg (by decide)]; split <;> rfl
theorem iMiddle (a b : Int) : impl_Middle.f a b = some (middle a b) := by
  unfold impl_Middle.f middle impl_down.f mid
  rw [iIvalOk, Option.bind_some]
  cases ivalOk a b with
  | false => rw [if_neg (by decide), if_neg (by decide)]
  | true => rw [if_pos rfl, if_pos rfl, if_neg (by decide)]; split <;> rfl
theorem l1MaxA (a b : Int) : spec_l1Max.f a b = some (mx a b) := by
  unfold spec_l1Max.f mx
  by_cases h : a > b
  · rw [if_pos h]; congr 1; split <;> omega
  · rw [if_neg h]; congr 1; split <;> omega
def appOk (h : Bool) (x : Int) : Bool := decide (-1000000000000 ≤ x ∧ x ≤ 1000000000000) && (h || decide (x = 0))
theorem sAppOk (h : Bool) (x : Int) : spec_AppOk.f h x = some (appOk h x) := by
  unfold spec_AppOk.f appOk; rw [l1In, Option.bind_some]
  cases decide (-1000000000000 ≤ x ∧ x ≤ 1000000000000) <;> cases h <;> simp <;> (by_cases hz : x = 0 <;> simp [hz])
theorem iAppOk (h : Bool) (x : Int) : impl_AppOk.f h x = some (appOk h x) := by
  unfold impl_AppOk.f appOk; rw [in_, Option.bind_some]
  cases decide (-1000000000000 ≤ x ∧ x ≤ 1000000000000) <;> cases h <;> simp <;> (by_cases hz : x = 0 <;> simp [hz])
def appRead (h : Bool) (x : Int) (kn : Bool) (a b : Int) : Bool × Int × Int × Bool × Int :=
  if (appOk h x && (!kn || ivalOk a b)) = true then
    (if kn = true then (if (h && decide (x > b)) = true then (h, x, x, true, 0) else (if h = true then (true, mx (mid a b) x, mx (mid a b) x, false, 0) else (true, mid a b, mid a b, false, 0)))
     else (if h = true then (h, x, x, true, 0) else (h, x, 0, false, 2)))
  else (false, 0, 0, false, 1)
theorem iAppRead (h : Bool) (x : Int) (kn : Bool) (a b : Int) (k : Nat) (hk : 3 ≤ k) : impl_AppRead.f k h x kn a b = some (appRead h x kn a b) := by
  obtain ⟨k, rfl⟩ : ∃ j, k = j + 3 := ⟨k - 3, by omega⟩
  unfold impl_AppRead.f appRead
  simp only [iAppOk, iIvalOk, Option.bind_some, impl_AppRead.j0, impl_AppRead.j1, impl_AppRead.j2, iMiddle, middle]
  cases appOk h x <;> cases kn <;> cases h <;> cases ivalOk a b <;> by_cases c : x > b <;> simp [c]
theorem sAppRead (h : Bool) (x : Int) (kn : Bool) (a b : Int) (k : Nat) (hk : 3 ≤ k) : spec_AppRead.f k h x kn a b = some (appRead h x kn a b) := by
  obtain ⟨k, rfl⟩ : ∃ j, k = j + 3 := ⟨k - 3, by omega⟩
  unfold spec_AppRead.f appRead
  simp only [sAppOk, sIvalOk, Option.bind_some, spec_AppRead.j0, spec_AppRead.j1, sMiddle, middle, l1MaxA]
  cases appOk h x <;> cases kn <;> cases h <;> cases ivalOk a b <;> by_cases c : x > b <;> simp [c]
def runSt (l : List Lk) (h : Bool) (x : Int) : Nat → List Rg × Bool × Int
  | 0 => ([], h, x)
  | i + 1 => match l[i]? with
    | some y => ((runSt l h x i).1 ++ [⟨(appRead (runSt l h x i).2.1 (runSt l h x i).2.2 y.f0 y.f1.f0 y.f1.f1).2.2.1, (appRead (runSt l h x i).2.1 (runSt l h x i).2.2 y.f0 y.f1.f0 y.f1.f1).2.2.2.1, (appRead (runSt l h x i).2.1 (runSt l h x i).2.2 y.f0 y.f1.f0 y.f1.f1).2.2.2.2⟩],
        if (appRead (runSt l h x i).2.1 (runSt l h x i).2.2 y.f0 y.f1.f0 y.f1.f1).2.2.2.2 = 1 then (runSt l h x i).2 else ((appRead (runSt l h x i).2.1 (runSt l h x i).2.2 y.f0 y.f1.f0 y.f1.f1).1, (appRead (runSt l h x i).2.1 (runSt l h x i).2.2 y.f0 y.f1.f0 y.f1.f1).2.1))
    | none => runSt l h x i
theorem runSt_len (l : List Lk) (h : Bool) (x : Int) : ∀ i, i ≤ l.length → (runSt l h x i).1.length = i := by
  intro i
  induction i with
  | zero => intro _; rfl
  | succ i ih =>
    intro hi
    rw [runSt, List.getElem?_eq_getElem (by omega)]
    simp only
    rw [List.length_append, ih (by omega)]; rfl
def appRun (h : Bool) (x : Int) (l : List Lk) : List Rg × Bool × Int := if (l.length : Int) > 200 then ([], h, x) else runSt l h x l.length
theorem appRun_len (h : Bool) (x : Int) (l : List Lk) : (appRun h x l).1.length ≤ 200 := by
  unfold appRun; split
  · simp
  · rw [runSt_len _ _ _ _ (Nat.le_refl _)]; omega
theorem iAppRun (h : Bool) (x : Int) (l : List Lk) (k : Nat) (hk : 210 ≤ k) : impl_AppRun.f k h x l = some (appRun h x l) := by
  unfold impl_AppRun.f appRun
  by_cases hl : (l.length : Int) > 200
  · rw [if_pos hl, if_pos hl]
  rw [if_neg hl, if_neg hl]
  refine track_loop0 (n := l.length) (c := 3) (σ := List Rg × Bool × Int) (F := runSt l h x) (L := fun k s i => impl_AppRun.l0 k s.1 l (l.length : Int) i s.2.1 s.2.2) (fun k i hi hk => ?_) (fun k hk => ?_) k (by omega)
  · simp only [impl_AppRun.l0]
    have hlen := runSt_len l h x i (by omega)
    rw [if_pos (by omega), if_pos (by omega), if_pos (by omega), rdLk l i hi, iAppRead _ _ _ _ _ _ hk, Option.bind_some, if_pos (by omega), Option.bind_some, wrap_succ hi (by omega)]
    rw [runSt, List.getElem?_eq_getElem hi]
    split
    · rename_i hc; simp only [hc, if_true]
    · rename_i hc; simp only [hc, if_false]
  · simp only [impl_AppRun.l0]
    rw [if_neg (by omega)]
theorem sAppRun (h : Bool) (x : Int) (l : List Lk) (k : Nat) (hk : 210 ≤ k) : spec_AppRun.f k h x l = some (appRun h x l) := by
  unfold spec_AppRun.f appRun
  rw [Option.bind_some]
  by_cases hl : (l.length : Int) > 200
  · rw [if_pos hl, if_pos hl]
  rw [if_neg hl, if_neg hl]
  refine track_loop0 (n := l.length) (c := 3) (σ := List Rg × Bool × Int) (F := runSt l h x) (L := fun k s i => spec_AppRun.l0 k l s.1 i s.2.1 s.2.2) (fun k i hi hk => ?_) (fun k hk => ?_) k (by omega)
  · simp only [spec_AppRun.l0]
    have hlen := runSt_len l h x i (by omega)
    rw [if_pos (by omega), if_pos (by omega), rdLk l i hi, sAppRead _ _ _ _ _ _ hk, Option.bind_some, if_pos (by omega), Option.bind_some, wrap_succ hi (by omega)]
    rw [runSt, List.getElem?_eq_getElem hi]
    split
    · rename_i hc; simp only [hc, if_true]
    · rename_i hc; simp only [hc, if_false]
  · simp only [spec_AppRun.l0]
    rw [if_neg (by omega)]
abbrev LkL := S126
def toLk (x : LkL) : Lk := ⟨x.f0, ⟨x.f1.f0, x.f1.f1⟩⟩
theorem rdLkL (l : List LkL) (i : Nat) (h : i < l.length) : rd_T126 l (i : Int) = l[i] := by
  unfold rd_T126; simp [List.getD, h]
theorem szLookS (l : List LkL) (hl : l.length ≤ 9223372036854775807) (a : Int) (ha : 0 ≤ a ∧ a ≤ 1048576) :
    (laws_szLookS.f l a = some (-1)) ∨ (laws_szLookS.f l a = some (a - l.length) ∧ (l.length : Int) ≤ a) := by
  unfold laws_szLookS.f
  have hw : wrap64 (a - (l.length : Int)) = a - l.length := wrap_id (by omega) (by omega)
  rw [hw]
  by_cases h : a - (l.length : Int) < 0
  · left; rw [if_pos h]
  · right; rw [if_neg h]; exact ⟨rfl, by omega⟩
theorem toLookS (l : List LkL) (hl : l.length ≤ 1048576) (k : Nat) (hk : l.length < k) : laws_toLookS.f k l = some (l.map toLk) := by
  unfold laws_toLookS.f
  rw [if_pos (by omega), if_pos (by simp; omega)]
  simp only [Int.toNat_natCast]
  refine to_loop0 (L := fun k acc i => laws_toLookS.l0 k l acc i) (fun k acc i hi ha => ?_) (fun k acc ha => ?_) k hk
  · simp only [laws_toLookS.l0, laws_toLook.f, laws_toIval.f, Option.bind_some]
    rw [if_pos (by omega), if_pos (by omega), if_pos (by omega), wrap_succ hi (by omega), rdLkL l i hi]
    rfl
  · simp only [laws_toLookS.l0]
    rw [if_neg (by omega)]
theorem eqLookS (l : List Lk) (hl : l.length ≤ 2000000) (k : Nat) (hk : l.length < k) : laws_eqLookS.f k l l = some true := by
  unfold laws_eqLookS.f
  rw [if_pos rfl]
  refine all_loopT (n := l.length) (L := fun k i => laws_eqLookS.l0 k l l i) (fun k i hi => ?_) (fun k => ?_) k hk
  · simp only [laws_eqLookS.l0, laws_eqLook.f, laws_eqIval.f]
    rw [if_pos (by omega), if_pos (by omega), if_pos (by omega), wrap_succ hi (by omega)]
    simp
  · simp only [laws_eqLookS.l0]
    rw [if_neg (by omega)]
theorem eqReadingS (l : List Rg) (hl : l.length ≤ 2000000) (k : Nat) (hk : l.length < k) : laws_eqReadingS.f k l l = some true := by
  unfold laws_eqReadingS.f
  rw [if_pos rfl]
  refine all_loopT (n := l.length) (L := fun k i => laws_eqReadingS.l0 k l l i) (fun k i hi => ?_) (fun k => ?_) k hk
  · simp only [laws_eqReadingS.l0, laws_eqReading.f]
    rw [if_pos (by omega), if_pos (by omega), if_pos (by omega), wrap_succ hi (by omega)]
    simp
  · simp only [laws_eqReadingS.l0]
    rw [if_neg (by omega)]
theorem eqApp (h : Bool) (x : Int) : laws_eqApp.f h x h x = some true := by unfold laws_eqApp.f; simp
theorem markLookS (l : List Lk) (hl : l.length ≤ 2000000) (a : Int) (ha : 0 ≤ a ∧ a ≤ 1000000000) (k : Nat) (hk : l.length < k) :
    laws_markLookS.f k l a = some (a + 3 * l.length, (List.range l.length).map fun (i : Nat) => (⟨Int.tmod (a + 3 * i) 3 == 0, ⟨a + 3 * i + 1, a + 3 * i + 2⟩⟩ : Lk)) := by
  unfold laws_markLookS.f
  have := mark_loop0 (l := l) (f := fun i => (⟨Int.tmod (a + 3 * (i : Int)) 3 == 0, ⟨a + 3 * i + 1, a + 3 * i + 2⟩⟩ : Lk)) (w := fun i => a + 3 * i) (c := 0) (L := fun k acc w i => laws_markLookS.l0 k acc w i) (fin := fun acc => (a + 3 * l.length, acc)) (fun k i acc hi hacc _ => ?_) (fun k acc hacc => ?_) k (by omega)
  · simp only [Int.natCast_zero, Int.mul_zero, Int.add_zero] at this; exact this
  · simp only [laws_markLookS.l0, Option.bind_some]
    have hr : ∀ v : Lk, rd_T83 (acc.set i v) (i : Int) = v := fun v => by rw [rdLk _ i (by simp; omega), List.getElem_set_self]
    rw [if_pos (by omega), if_pos (by omega), wrap_succ hi (by omega)]
    simp only [Int.toNat_natCast, hr, List.set_set]
    rw [wrap_id (x := a + 3 * (i : Int) + 1) (by omega) (by omega), wrap_id (x := a + 3 * (i : Int) + 1 + 1) (by omega) (by omega), wrap_id (x := a + 3 * (i : Int) + 1 + 1 + 1) (by omega) (by omega)]
    rw [show a + 3 * (i : Int) + 1 + 1 = a + 3 * (i : Int) + 2 by omega]
    congr 1; omega
  · simp only [laws_markLookS.l0]
    rw [if_neg (by omega)]
theorem markReadingS (l : List Rg) (hl : l.length ≤ 2000000) (a : Int) (ha : 0 ≤ a ∧ a ≤ 1000000000) (k : Nat) (hk : l.length < k) :
    laws_markReadingS.f k l a = some (a + 3 * l.length, (List.range l.length).map fun (i : Nat) => (⟨a + 3 * i, Int.tmod (a + 3 * i + 1) 3 == 0, a + 3 * i + 2⟩ : Rg)) := by
  unfold laws_markReadingS.f
  have := mark_loop0 (l := l) (f := fun i => (⟨a + 3 * (i : Int), Int.tmod (a + 3 * i + 1) 3 == 0, a + 3 * i + 2⟩ : Rg)) (w := fun i => a + 3 * i) (c := 0) (L := fun k acc w i => laws_markReadingS.l0 k acc w i) (fin := fun acc => (a + 3 * l.length, acc)) (fun k i acc hi hacc _ => ?_) (fun k acc hacc => ?_) k (by omega)
  · simp only [Int.natCast_zero, Int.mul_zero, Int.add_zero] at this; exact this
  · simp only [laws_markReadingS.l0, Option.bind_some]
    have hr : ∀ v : Rg, rd_T88 (acc.set i v) (i : Int) = v := fun v => by rw [rdRg _ i (by simp; omega), List.getElem_set_self]
    rw [if_pos (by omega), if_pos (by omega), wrap_succ hi (by omega)]
    simp only [Int.toNat_natCast, hr, List.set_set]
    rw [wrap_id (x := a + 3 * (i : Int) + 1) (by omega) (by omega), wrap_id (x := a + 3 * (i : Int) + 1 + 1) (by omega) (by omega), wrap_id (x := a + 3 * (i : Int) + 1 + 1 + 1) (by omega) (by omega)]
    rw [show a + 3 * (i : Int) + 1 + 1 = a + 3 * (i : Int) + 2 by omega]
    congr 1; omega
  · simp only [laws_markReadingS.l0]
    rw [if_neg (by omega)]
theorem heldReadingS (n : Nat) (hn : n ≤ 2000000) (a : Int) (ha : 0 ≤ a ∧ a ≤ 1000000000) (k : Nat) (hk : n < k) : laws_heldReadingS.f k ((List.range n).map fun (i : Nat) => (⟨a + 3 * i, Int.tmod (a + 3 * i + 1) 3 == 0, a + 3 * i + 2⟩ : Rg)) a = some (a + 3 * n) := by
  unfold laws_heldReadingS.f
  have hlen : ((List.range n).map fun (i : Nat) => (⟨a + 3 * (i : Int), Int.tmod (a + 3 * i + 1) 3 == 0, a + 3 * i + 2⟩ : Rg)).length = n := by simp
  have := track_loop0 (n := n) (c := 0) (L := fun k s i => laws_heldReadingS.l0 k ((List.range n).map fun (i : Nat) => (⟨a + 3 * (i : Int), Int.tmod (a + 3 * i + 1) 3 == 0, a + 3 * i + 2⟩ : Rg)) s i) (F := fun i => a + 3 * (i : Int)) (r := a + 3 * n) (fun k i hi _ => ?_) (fun k _ => ?_) k (by omega)
  · simp only [Int.natCast_zero, Int.mul_zero, Int.add_zero] at this; exact this
  · simp only [laws_heldReadingS.l0]
    rw [if_pos (by omega), if_pos (by omega), rdRg _ i (by omega), wrap_succ hi (by omega), wrap_id (x := a + 3 * (i : Int) + 1) (by omega) (by omega), wrap_id (x := a + 3 * (i : Int) + 1 + 1) (by omega) (by omega), wrap_id (x := a + 3 * (i : Int) + 1 + 1 + 1) (by omega) (by omega), if_pos (by simp), if_neg (by simp), if_pos (by simp; omega)]
    congr 1; omega
  · simp only [laws_heldReadingS.l0]
    rw [if_neg (by omega)]
end Go.Proofs.Ytcgdnfaclbnflaa.C
namespace Go.Proofs.Ytcgdnfaclbnflaa.V
open Go.RowKit Go.Proofs.Ytcgdnfaclbnflaa.P Go.Proofs.Ytcgdnfaclbnflaa.C Go.Proofs.Ytcgdnfaclbnflaa.G
theorem FnExactAppRun : ∀ (a0_0 : Bool) (a0_1 : Int) (l1 : List (S126)), (Lit.int .i64 a0_1).wf = true → (l1.length ≤ 9223372036854775807 ∧ ∀ y ∈ l1, (True ∧ (Lit.int .i64 y.f1.f0).wf = true ∧ (Lit.int .i64 y.f1.f1).wf = true)) → ∃ k, laws_FnExactAppRun.f k a0_0 a0_1 l1 = some true := by
  intro h x l _ ⟨hl, _⟩
  refine ⟨2200100, ?_⟩
  unfold laws_FnExactAppRun.f
  rcases szLookS l hl 1048576 (by omega) with e | ⟨e, he⟩
  · rw [e, Option.bind_some, if_pos (by omega)]
  rw [e, Option.bind_some, if_neg (by omega)]
  have hm : (l.map toLk).length = l.length := by simp
  have hq := appRun_len h x (l.map toLk)
  generalize hr : appRun h x (l.map toLk) = r at hq
  obtain ⟨out, h', x'⟩ := r
  simp only at hq
  have hj2 : ∀ k, 2100000 ≤ k → laws_FnExactAppRun.j2 k ((List.range out.length).map fun (i : Nat) => (⟨1 + 3 * (i : Int), Int.tmod (1 + 3 * (i : Int) + 1) 3 == 0, 1 + 3 * (i : Int) + 2⟩ : Rg)) (1 + 3 * (out.length : Int)) false = some true := by
    intro k hk
    obtain ⟨k, rfl⟩ : ∃ j, k = j + 1 := ⟨k - 1, by omega⟩
    simp only [laws_FnExactAppRun.j2]
    rw [if_neg (by decide), heldReadingS _ (by omega) 1 (by omega) k (by omega), Option.bind_some, if_neg (by omega), if_pos (by trivial)]
  have hj1 : ∀ k, 2110000 ≤ k → laws_FnExactAppRun.j1 k l out out false h x h' x' = some true := by
    intro k hk
    obtain ⟨k, rfl⟩ : ∃ j, k = j + 1 := ⟨k - 1, by omega⟩
    simp only [laws_FnExactAppRun.j1]
    rw [if_neg (by decide), markReadingS out (by omega) 1 (by omega) k (by omega), Option.bind_some, heldReadingS _ (by omega) 1 (by omega) k (by omega), Option.bind_some, if_neg (by omega), if_pos (by trivial)]
    unfold laws_toApp.f
    rw [Option.bind_some, toLookS l (by omega) k (by omega), Option.bind_some, iAppRun h x _ k (by omega), hr, Option.bind_some, eqReadingS out (by omega) k (by omega), Option.bind_some, if_pos (by trivial), eqApp, Option.bind_some]
    exact hj2 k (by omega)
  have hj0 : ∀ k, 2120000 ≤ k → laws_FnExactAppRun.j0 k l out (l.map toLk) out false h x h' x' h' x' = some true := by
    intro k hk
    obtain ⟨k, rfl⟩ : ∃ j, k = j + 1 := ⟨k - 1, by omega⟩
    simp only [laws_FnExactAppRun.j0]
    rw [if_neg (by decide), toLookS l (by omega) k (by omega), Option.bind_some, eqLookS _ (by omega) k (by omega), Option.bind_some, if_pos (by trivial), markLookS _ (by omega) 1 (by omega) k (by omega), Option.bind_some, if_neg (by simp only; omega), eqReadingS out (by omega) k (by omega), Option.bind_some, if_pos (by trivial), eqApp, Option.bind_some]
    exact hj1 k (by omega)
  unfold laws_toApp.f
  rw [Option.bind_some, toLookS l (by omega) _ (by omega), Option.bind_some, sAppRun h x _ _ (by omega), hr, Option.bind_some, Option.bind_some, Option.bind_some, iAppRun h x _ _ (by omega), hr, Option.bind_some, eqReadingS out (by omega) _ (by omega), Option.bind_some, if_pos (by trivial), eqApp, Option.bind_some]
  exact hj0 _ (by omega)
end Go.Proofs.Ytcgdnfaclbnflaa.V
namespace Go.Proofs.Ytcgdnfaclbnflaa.Args
open Go.ChangeShapes Go.WideShapes Go.Deep Go.Proofs.YtcgdnfaclbnflaaW.PrintWords
theorem trod_field {H : Type} {enc : TypeId × Value → H} {P : Program} {w : World} {base : Nat} {spare : Nat → Bool} {held : Bool} {fuel : Nat} {t : TypeId} {cs : List Value} {x : DataW H × List MemPlace} {fs : Array Field}
    (ht : P.underlying t = some (.struct fs)) (h : DataW.trod enc P w base spare held fuel t cs = some x) :
    cs.length = P.cellsOf t ∧ ∀ (i : Nat) (f : Field), fs[i]? = some f → ∃ n y, DataW.trod enc P w base spare held n f.type ((cs.drop f.offset).take (P.cellsOf f.type)) = some y := by
  obtain ⟨xs, n, rfl, _, hl, hx, hf⟩ := DataW.trod_struct ht h
  refine ⟨hl, fun i f hi => ⟨n, ?_⟩⟩
  have hi2 : i < fs.size := by
    rcases Nat.lt_or_ge i fs.size with h' | h'
    · exact h'
    · rw [Array.getElem?_eq_none h'] at hi; cases hi
  obtain ⟨y, hy⟩ : ∃ y, xs[i]? = some y := ⟨_, List.getElem?_eq_getElem (by omega)⟩
  exact ⟨y, by rw [hf i f hi, hy]⟩
theorem trod_at {H : Type} {enc : TypeId × Value → H} {P : Program} {w : World} {base : Nat} {spare : Nat → Bool} {held : Bool} {fuel : Nat} {t : TypeId} {cs : List Value} {x : DataW H × List MemPlace} {fs : Array Field}
    (ht : P.underlying t = some (.struct fs)) (h : DataW.trod enc P w base spare held fuel t cs = some x) (i : Nat) (ft : TypeId) (off sz : Nat) (cs' : List Value)
    (hf : ∃ f, fs[i]? = some f ∧ f.type = ft ∧ f.offset = off) (hw : P.cellsOf ft = sz) (hc : (cs.drop off).take sz = cs') : ∃ n y, DataW.trod enc P w base spare held n ft cs' = some y := by
  obtain ⟨f, h1, rfl, rfl⟩ := hf
  subst hw hc
  exact (trod_field ht h).2 i f h1
def Opens (P : Program) (t : TypeId) {α : Type} (d : Kd α) (B : α → Prop) : Prop :=
  ∀ {H : Type} {enc : TypeId × Value → H} {w : World} {base : Nat} {spare : Nat → Bool} {held : Bool} {fuel : Nat} {cs : List Value} {x : DataW H × List MemPlace},
    DataW.trod enc P w base spare held fuel t cs = some x → ∃ a, d.K w a cs ∧ B a
theorem open_row {H : Type} {enc : TypeId × Value → H} {P : Program} {w : World} {base : Nat} {spare : Nat → Bool} {held : Bool} {fuel : Nat} {t e : TypeId} {c : Value} {x : DataW H × List MemPlace} {α : Type} {d : Kd α} {B : α → Prop} (z : α)
    (ht : P.underlying t = some (.slice e)) (hsz : P.cellsOf e = d.sz) (he : Opens P e d B) (h : DataW.trod enc P w base spare held fuel t [c] = some x) :
    ∃ A cap l, c = .slice A l.length cap ∧ Kd.C d w A l.length l ∧ l.length ≤ cap ∧ l.length ≤ 9223372036854775807 ∧ ∀ y ∈ l, B y := by
  haveI : Inhabited α := ⟨z⟩
  rcases open_slice ht h with ⟨hc, _⟩ | ⟨a, len, cap, m, n, D, Pl, hc, _, hl, hm, hmm, _, hx⟩
  · obtain rfl := List.head_eq_of_cons_eq hc
    exact ⟨none, 0, [], rfl, Kd.C_nil _ _, Nat.le_refl _, by simp, fun y hy => by cases hy⟩
  · obtain rfl := List.head_eq_of_cons_eq hc
    have hlm : len ≤ m := by rw [hmm]; split <;> omega
    obtain ⟨f, hf⟩ := choose_lt (α := α) (n := len) (p := fun i y => (∃ c', c'.length = d.sz ∧ d.K w y c' ∧ ∀ k u, c'[k]? = some u → w.cell? (a.add (i * d.sz + k)) = some u) ∧ B y) (fun i hi => by
      obtain ⟨cs', h1, h2⟩ := hx i (by omega)
      obtain ⟨y, hk, hb⟩ := he h2
      refine ⟨y, ⟨cs', d.K_len hk, hk, fun k u hu => ?_⟩, hb⟩
      obtain ⟨_, hlen, hcell⟩ := World.cells?_some h1
      have hk2 : k < cs'.length := (List.getElem?_eq_some_iff.1 hu).1
      have := hcell k (by omega)
      rw [hsz, Addr.add_add] at this
      rw [this, hu])
    have hmax : len ≤ 9223372036854775807 := by unfold maxLen at hm; omega
    refine ⟨some a, cap, (List.range len).map f, by simp, ⟨by simp, by simpa using hmax, fun _ => ⟨a, rfl, fun j p hj => ?_⟩⟩, by simpa using hl, by simpa using hmax, fun y hy => ?_⟩
    · have hj2 : j < len := by simpa using (List.getElem?_eq_some_iff.1 hj).1
      rw [List.getElem?_map, List.getElem?_range hj2] at hj
      obtain rfl := Option.some.inj hj
      exact (hf j hj2).1
    · obtain ⟨j, hj, rfl⟩ := List.mem_map.1 hy
      exact (hf j (List.mem_range.1 hj)).2
end Go.Proofs.Ytcgdnfaclbnflaa.Args
