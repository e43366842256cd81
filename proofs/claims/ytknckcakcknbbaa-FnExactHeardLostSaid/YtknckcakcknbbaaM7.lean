/- Texts of the seat's proofs, part 7: functions of the program told as plain functions, with their contracts, and what is shown of them. No condition. -/
import Derived.Test.YtknckcakcknbbaaU
import Derived.Test.YtknckcakcknbbaaM6
import Derived.Test.YtknckcakcknbbaaM1
import Derived.Test.YtknckcakcknbbaaM2
import Derived.Test.YtknckcakcknbbaaM4
import Derived.Test.YtknckcakcknbbaaM3
import Derived.Test.YtknckcakcknbbaaM5
set_option linter.unusedVariables false
set_option linter.unusedSimpArgs false
namespace Go.Proofs.Ytknckcakcknbbaa.C
open Go.RowKit Go.Proofs.Ytknckcakcknbbaa.P Go.Proofs.Ytknckcakcknbbaa.G
abbrev H := S73
abbrev HL := S75
def toH (x : HL) : H := ⟨x.f0, x.f1⟩
theorem rdH (l : List H) (i : Nat) (h : i < l.length) : rd_T73 l (i : Int) = l[i] := by
  unfold rd_T73; simp [List.getD, h]
theorem rdHL (l : List HL) (i : Nat) (h : i < l.length) : rd_T75 l (i : Int) = l[i] := by
  unfold rd_T75; simp [List.getD, h]
theorem toHeardS (l : List HL) (hl : l.length ≤ 1048576) (k : Nat) (hk : l.length < k) : laws_toHeardS.f k l = some (l.map toH) := by
  unfold laws_toHeardS.f
  rw [if_pos (by omega), if_pos (by simp; omega)]
  simp only [Int.toNat_natCast]
  refine to_loop0 (L := fun k acc i => laws_toHeardS.l0 k l acc i) (fun k acc i hi ha => ?_) (fun k acc ha => ?_) k hk
  · simp only [laws_toHeardS.l0, laws_toHeard.f, Option.bind_some]
    rw [if_pos (by omega), if_pos (by omega), if_pos (by omega), wrap_succ hi (by omega), rdHL l i hi]
    rfl
  · simp only [laws_toHeardS.l0]
    rw [if_neg (by omega)]
theorem eqHeardS (l : List H) (hl : l.length ≤ 1048576) (k : Nat) (hk : l.length < k) : laws_eqHeardS.f k l l = some true := by
  unfold laws_eqHeardS.f
  rw [if_pos rfl]
  refine all_loopT (n := l.length) (L := fun k i => laws_eqHeardS.l0 k l l i) (fun k i hi => ?_) (fun k => ?_) k hk
  · simp only [laws_eqHeardS.l0, laws_eqHeard.f]
    rw [if_pos (by omega), if_pos (by omega), if_pos (by omega), wrap_succ hi (by omega)]
    simp
  · simp only [laws_eqHeardS.l0]
    rw [if_neg (by omega)]
def hq (l : List H) (i : Nat) : Bool := match l[i]? with
  | none => true
  | some x => decide (0 ≤ x.f0 ∧ x.f0 ≤ 15) && decide (0 ≤ x.f1 ∧ x.f1 ≤ 1000000000000) && (match l[i - 1]? with | none => true | some y => decide (i = 0) || decide (y.f0 < x.f0))
theorem hq_eq (l : List H) (i : Nat) (h : i < l.length) : hq l i = (decide (0 ≤ l[i].f0 ∧ l[i].f0 ≤ 15) && decide (0 ≤ l[i].f1 ∧ l[i].f1 ≤ 1000000000000) && (decide (i = 0) || decide ((l[i-1]'(by omega)).f0 < l[i].f0))) := by
  unfold hq; rw [List.getElem?_eq_getElem h, List.getElem?_eq_getElem (by omega : i - 1 < l.length)]
def heardOk (l : List H) : Bool := (List.range l.length).all (hq l)
theorem heard_pos {l : List H} (h : ∀ i, i < l.length → hq l i = true) : ∀ i (hi : i < l.length), (i : Int) ≤ l[i].f0 := by
  intro i
  induction i with
  | zero => intro hi; have := h 0 hi; rw [hq_eq l 0 hi] at this; simp at this; omega
  | succ i ih =>
    intro hi
    have h1 := ih (by omega)
    have := h (i + 1) hi; rw [hq_eq l (i + 1) hi] at this; simp at this
    omega
theorem heard_len {l : List H} (h : heardOk l = true) : l.length ≤ 16 := by
  unfold heardOk at h; rw [all_iff] at h
  rcases Nat.lt_or_ge 16 l.length with hl | hl
  · have h1 := heard_pos h 16 hl
    have := h 16 hl; rw [hq_eq l 16 hl] at this; simp at this
    omega
  · exact hl
theorem iHeardOk (l : List H) (hl : l.length ≤ 1048576) (k : Nat) (hk : l.length < k) : impl_HeardOk.f k l = some (heardOk l) := by
  unfold impl_HeardOk.f heardOk
  have := all_loop0 (n := l.length) (L := fun k i => impl_HeardOk.l0 k l l (l.length : Int) i) (Q := hq l) (e := true) (fun k i hi => ?_) (fun k => ?_) k hk
  · simpa using this
  · simp only [impl_HeardOk.l0, in_, isTime, Option.bind_some]
    rw [if_pos (by omega), if_pos (by omega), if_pos (by omega), wrap_succ hi (by omega), rdH l i hi, hq_eq l i hi]
    cases decide (0 ≤ l[i].f0 ∧ l[i].f0 ≤ 15) <;> cases decide (0 ≤ l[i].f1 ∧ l[i].f1 ≤ 1000000000000) <;> simp only [Bool.true_and, Bool.false_and, if_true, if_false, Bool.false_eq_true]
    rcases Nat.eq_zero_or_pos i with h0 | h0
    · subst h0; simp
    · have hp : (0 : Int) < (i : Int) := by omega
      rw [if_pos (by omega), wrap_pred h0 hi (by omega), if_pos (by omega), if_pos (by omega), rdH l (i - 1) (by omega)]
      by_cases h3 : (l[i - 1]'(by omega)).f0 ≥ l[i].f0
      · rw [if_pos h3, if_neg (by simp; omega)]
      · rw [if_neg h3, if_pos (by simp; omega)]
  · simp only [impl_HeardOk.l0]
    rw [if_neg (by omega)]
theorem sHeardOk (l : List H) (hl : l.length ≤ 1048576) (k : Nat) (hk : l.length < k) : spec_HeardOk.f k l = some (heardOk l) := by
  unfold spec_HeardOk.f
  by_cases h16 : (l.length : Int) > 16
  · rw [if_pos h16]
    cases h : heardOk l with
    | false => rfl
    | true => have := heard_len h; omega
  rw [if_neg h16]
  unfold heardOk
  have := all_loop0 (n := l.length) (L := fun k i => spec_HeardOk.l0 k l i) (Q := hq l) (e := true) (fun k i hi => ?_) (fun k => ?_) k hk
  · simpa using this
  · simp only [spec_HeardOk.l0, l1In, l2Time, Option.bind_some]
    rw [if_pos (by omega), if_pos (by omega), wrap_succ hi (by omega), rdH l i hi, hq_eq l i hi]
    cases decide (0 ≤ l[i].f0 ∧ l[i].f0 ≤ 15) <;> cases decide (0 ≤ l[i].f1 ∧ l[i].f1 ≤ 1000000000000) <;> simp only [Bool.true_and, Bool.false_and, if_true, if_false, Bool.false_eq_true]
    rcases Nat.eq_zero_or_pos i with h0 | h0
    · subst h0; simp
    · have hp : (0 : Int) < (i : Int) := by omega
      rw [if_pos (by omega), wrap_pred h0 hi (by omega), if_pos (by omega), if_pos (by omega), rdH l (i - 1) (by omega)]
      by_cases h3 : (l[i - 1]'(by omega)).f0 ≥ l[i].f0
      · rw [if_pos h3, if_neg (by simp; omega)]
      · rw [if_neg h3, if_pos (by simp; omega)]
  · simp only [spec_HeardOk.l0]
    rw [if_neg (by omega)]
theorem szHeardS (l : List HL) (hl : l.length ≤ 9223372036854775807) (a : Int) (ha : 0 ≤ a ∧ a ≤ 1048576) :
    (laws_szHeardS.f l a = some (-1)) ∨ (laws_szHeardS.f l a = some (a - l.length) ∧ (l.length : Int) ≤ a) := by
  unfold laws_szHeardS.f
  have hw : wrap64 (a - (l.length : Int)) = a - l.length := wrap_id (by omega) (by omega)
  rw [hw]
  by_cases h : a - (l.length : Int) < 0
  · left; rw [if_pos h]
  · right; rw [if_neg h]; exact ⟨rfl, by omega⟩
end Go.Proofs.Ytknckcakcknbbaa.C
namespace Go.Proofs.Ytknckcakcknbbaa.P
open Go.RowKit Go.Proofs.YtknckcakcknbbaaW.PrintWords Go.Proofs.YtknckcakcknbbaaW.PrintLast Go.Proofs.YtknckcakcknbbaaW.PrintMore
attribute [local go_sem] max2_int min2_int max_two min_two max_three min_three max_four min_four
set_option linter.unusedVariables false
set_option linter.unusedSimpArgs false
def spec_l16Slots.l0 : Nat → List (S73) → List Int → Int → Option (List Int)
  | 0, _, _, _ => none
  | k + 1, x0, x3, x4 => if x4 < (x0.length : Int) then (if 0 ≤ x4 then (if x3.length < 17592186044416 then (spec_l16Slots.l0 k x0 (x3 ++ [(rd_T73 x0 x4).f0]) (wrap64 (x4 + 1))) else (none)) else (none)) else (some x3)
def spec_l16Slots.f (k : Nat) (l0 : List (S73)) : Option (List Int) := spec_l16Slots.l0 k l0 (([] : List Int)) 0
theorem spec_l16Slots.mono_l : ∀ k, (∀ y0 y1 y2, LeO (spec_l16Slots.l0 k y0 y1 y2) (spec_l16Slots.l0 (k + 1) y0 y1 y2))
  | 0 => fun _ _ _ r h => by simp [spec_l16Slots.l0] at h
  | k + 1 => by
    have ih0 := spec_l16Slots.mono_l k
    · intro y0 y1 y2
      unfold spec_l16Slots.l0
      repeat' first
      | (with_reducible exact ih0 _ _ _)
      | (with_reducible exact LeO.refl _)
      | (with_reducible exact LeO.none _)
      | (with_reducible refine LeO.ite ?_ ?_)
      | (with_reducible refine LeO.bind ?_ (fun _ => ?_))
      | exact ih0 _ _ _
      | exact LeO.none _
      | refine LeO.ite ?_ ?_
      | refine LeO.bind ?_ (fun _ => ?_)
theorem spec_l16Slots.mono : ∀ a0 k, LeO (spec_l16Slots.f k a0) (spec_l16Slots.f (k + 1) a0) := by
  intro a0 k
  have ih0 := spec_l16Slots.mono_l k
  unfold spec_l16Slots.f
  repeat' first
      | (with_reducible exact ih0 _ _ _)
      | (with_reducible exact LeO.refl _)
      | (with_reducible exact LeO.none _)
      | (with_reducible refine LeO.ite ?_ ?_)
      | (with_reducible refine LeO.bind ?_ (fun _ => ?_))
      | exact ih0 _ _ _
      | exact LeO.none _
      | refine LeO.ite ?_ ?_
      | refine LeO.bind ?_ (fun _ => ?_)
set_option maxHeartbeats 8000000 in
set_option maxRecDepth 100000 in
theorem spec_l16Slots.calls (k : Nat) (A0 : Option Addr) (c0 : Nat) (l0 : List (S73)) (r : List Int) (w : World) (hr0 : Kd.C k73 w A0 l0.length l0) (hc0 : l0.length ≤ c0) (h : spec_l16Slots.f k l0 = some r) :
    Calls Try.prog 41 #[.slice A0 l0.length c0] w fun e w' => ∃ v0_ : Value, e = .returned (v0_) ∧ Kd.R (Kd.int .i64) 3 w' w.heap.size (fun _ => True) v0_ r ∧ Below w.heap.size w w' := by
  have HR0 := Aside0.mk hr0
  have HC0 := Aside0.mk hc0
  clear hr0 hc0
  have HB := Aside0.mk (Below.refl w.heap.size w)
  have H : (spec_l16Slots.l0 k l0 (([] : List Int)) 0) = some r := h
  clear h
  obtain ⟨y108, hy108⟩ : ∃ y_ : List Int, y_ = (([] : List Int)) := ⟨_, rfl⟩
  replace H : (spec_l16Slots.l0 k l0 y108 0) = some r := by first | (rw [hy108]; with_reducible exact H) | (have H2_ := (Option.bind_some _ _).symm.trans H; rw [hy108]; with_reducible exact H2_) | (have H2_ := (Option.bind_some _ _).symm.trans H; with_reducible exact H2_) | with_reducible exact H | (rw [hy108]; exact H) | exact H
  have Ny108 := Aside0.mk hy108
  clear hy108
  have H' := Aside0.mk H
  clear H
  go_enter Try.func41, Try.ntmps41
  go_wp2_with (first | ((with_reducible refine gate_dst (N := 5) rfl ?_); refine Kd.R_lit (Kd.int .i64) _ 3 ?hg (N := 5) ?hd (xs := ([] : List Int)) (inner := []) (ok := fun _ => True) (okp := fun _ => True) ?hr ?hp (fun _ hk => hk) trivial (Below.refl _ _) (Nat.le_refl _) (by simp) ?_; (case hd => rfl); (case hg => rfl); (case hr => first | (go_simp; done) | (go_simp; rfl)); (case hp => exact (Reps.none _ _)); intro v109 w2 ho3 hb hg_ hnew_; clear hg_ hnew_; (first | rw [← Ny108.out] at ho3 | (simp only [Int.reduceToNat] at ho3; rw [← Ny108.out] at ho3)); have n0_ := Aside0.mk (Kd.R_lower ho3 (below_size (hb_ HB.out))); have n1_ := Aside0.mk (below_step (hb_ HB.out) hb); clear HB; have HO110 := n0_; have HB := n1_; clear n0_ n1_; clear hb ho3))
  go_loopg [3, 4] k (fun kq v3 v4 w' => ∃ (x3_1 : List Int) (x4_1 : Int), v4 = .int .i64 x4_1 ∧ Aside0 (spec_l16Slots.l0 kq l0 x3_1 x4_1 = some r) ∧ Aside0 (kq ≤ k) ∧ Aside0 (Kd.R (Kd.int .i64) 3 w' w.heap.size (fun _ => True) v3 x3_1) ∧ Aside0 (Below w.heap.size w w'))
  case atStart => exact ⟨(y108), (0), (by first | rfl | (simp; done) | (simp [*]; done)), H', ⟨Nat.le_refl _⟩, ⟨by (with_reducible repeat (first | apply Kd.R_alloc | apply Kd.R_drewN | apply Kd.R_drew)); exact HO110.out⟩, ⟨hb_ HB.out⟩⟩
  case round =>
    clear H'
    try clear p2
    obtain ⟨x3_1, x4_1, rfl, HA, HK1, HO_3, HB⟩ := hrel
    cases gk with
    | zero => exact absurd HA.out (by simp [spec_l16Slots.l0])
    | succ k1 =>
      have H := HA.out
      clear HA
      simp only [spec_l16Slots.l0] at H
      by_cases c4 : x4_1 < (l0.length : Int)
      · rw [if_pos c4] at H
        have c4b0 : decide (x4_1 < (l0.length : Int)) = true := decide_eq_true c4
        clear c4
        by_cases c5 : 0 ≤ x4_1
        · rw [if_pos c5] at H
          have c5b0 : decide (0 ≤ x4_1) = true := decide_eq_true c5
          clear c5
          by_cases c6 : x3_1.length < 17592186044416
          · rw [if_pos c6] at H
            have LMc6 := Aside0.mk c6
            clear c6
            obtain ⟨y112, hy112⟩ : ∃ y_ : List Int, y_ = (x3_1 ++ [(rd_T73 l0 x4_1).f0]) := ⟨_, rfl⟩
            replace H : (spec_l16Slots.l0 k1 l0 y112 (wrap64 (x4_1 + 1))) = some r := by first | (rw [hy112]; with_reducible exact H) | (have H2_ := (Option.bind_some _ _).symm.trans H; rw [hy112]; with_reducible exact H2_) | (have H2_ := (Option.bind_some _ _).symm.trans H; with_reducible exact H2_) | with_reducible exact H | (rw [hy112]; exact H) | exact H
            have Ny112 := Aside0.mk hy112
            clear hy112
            have H' := Aside0.mk H
            clear H
            have p111 : 0 ≤ (x4_1 : Int) := of_decide_eq_true (by first | (with_reducible assumption) | assumption)
            have q111 : x4_1 < (l0.length : Int) := of_decide_eq_true (by first | (with_reducible assumption) | assumption)
            obtain ⟨ad111, e111, hx111_0, hx111_1⟩ := at_T73 HR0.out x4_1 p111 q111
            cases e111
            replace hx111_0 := (HB.out.cell (World.block_lt_of_cell? w _ hx111_0)).trans hx111_0
            replace hx111_1 := (HB.out.cell (World.block_lt_of_cell? w _ hx111_1)).trans hx111_1
            replace p111 := eq_true p111
            replace q111 := eq_true q111
            go_wp2_with (first | ((with_reducible refine gate_builtin (b := .append) (xs := #[.tmp 12, .tmp 18]) rfl ?_); at_builtin; refine Kd.R_append (Kd.int .i64) (w0 := w) w.heap.size rfl (.tmp 12) (.tmp 18) 24 3 (.int .i64 0) 8 rfl Try.underlying24 info3 rfl (by decide) (by omega) u3 x3_1 ((rd_T73 l0 x4_1).f0) [.int .i64 ((rd_T73 l0 x4_1).f0)] (fun _ => True) (fun _ => False) rfl rfl ?aP (fun _ hk => hk.elim) ?aF ?aO ?aB ?aS ?aL ?_; (case aP => exact rfl); (case aB => exact (hb_ HB.out)); (case aF => exact (fun _ _ => trivial)); (case aO => exact (by (with_reducible repeat (first | apply Kd.R_alloc | apply Kd.R_drewN | apply Kd.R_drew)); exact HO_3.out)); (case aS => exact (below_size (hb_ HB.out))); (case aL => have := LMc6.out; omega); intro v113 w7 ho hb hg hat; rw [← Ny112.out] at ho; have n0_ := Aside0.mk (hb); have n1_ := Aside0.mk (ho); clear HB; clear HO_3; have HB := n0_; have HO114 := n1_; clear n0_ n1_; clear ho hb hg hat))
            go_roundg k1
            case measure => have := HK1.out; omega
            case rel => exact ⟨(y112), (wrap64 (x4_1 + 1)), (by first | rfl | (simp; done) | (simp [*]; done)), H', ⟨by have := HK1.out; omega⟩, ⟨by (with_reducible repeat (first | apply Kd.R_alloc | apply Kd.R_drewN | apply Kd.R_drew)); exact HO114.out⟩, ⟨hb_ HB.out⟩⟩
          · rw [if_neg c6] at H
            exact absurd H (by simp)
        · rw [if_neg c5] at H
          exact absurd H (by simp)
      · rw [if_neg c4] at H
        have c4b0 : decide (x4_1 < (l0.length : Int)) = false := decide_eq_false c4
        clear c4
        obtain rfl := Option.some.inj H
        go_wp2
        go_ret
        exact ⟨_, er_, by (with_reducible repeat (first | apply Kd.R_alloc | apply Kd.R_drewN | apply Kd.R_drew)); exact HO_3.out, hb_ HB.out⟩
def spec_l16Has.l0 : Nat → List Int → Int → Int → Option (Bool)
  | 0, _, _, _ => none
  | k + 1, x0, x1, x5 => if x5 < (x0.length : Int) then (if 0 ≤ x5 then (if (rd x0 x5) = x1 then (some true) else (spec_l16Has.l0 k x0 x1 (wrap64 (x5 + 1)))) else (none)) else (some false)
def spec_l16Has.f (k : Nat) (l0 : List Int) (a1 : Int) : Option (Bool) := spec_l16Has.l0 k l0 a1 0
theorem spec_l16Has.mono_l : ∀ k, (∀ y0 y1 y2, LeO (spec_l16Has.l0 k y0 y1 y2) (spec_l16Has.l0 (k + 1) y0 y1 y2))
  | 0 => fun _ _ _ r h => by simp [spec_l16Has.l0] at h
  | k + 1 => by
    have ih0 := spec_l16Has.mono_l k
    · intro y0 y1 y2
      unfold spec_l16Has.l0
      repeat' first
      | (with_reducible exact ih0 _ _ _)
      | (with_reducible exact LeO.refl _)
      | (with_reducible exact LeO.none _)
      | (with_reducible refine LeO.ite ?_ ?_)
      | (with_reducible refine LeO.bind ?_ (fun _ => ?_))
      | exact ih0 _ _ _
      | exact LeO.none _
      | refine LeO.ite ?_ ?_
      | refine LeO.bind ?_ (fun _ => ?_)
theorem spec_l16Has.mono : ∀ a0 a1 k, LeO (spec_l16Has.f k a0 a1) (spec_l16Has.f (k + 1) a0 a1) := by
  intro a0 a1 k
  have ih0 := spec_l16Has.mono_l k
  unfold spec_l16Has.f
  repeat' first
      | (with_reducible exact ih0 _ _ _)
      | (with_reducible exact LeO.refl _)
      | (with_reducible exact LeO.none _)
      | (with_reducible refine LeO.ite ?_ ?_)
      | (with_reducible refine LeO.bind ?_ (fun _ => ?_))
      | exact ih0 _ _ _
      | exact LeO.none _
      | refine LeO.ite ?_ ?_
      | refine LeO.bind ?_ (fun _ => ?_)
set_option maxHeartbeats 8000000 in
set_option maxRecDepth 100000 in
theorem spec_l16Has.calls (k : Nat) (A0 : Option Addr) (c0 : Nat) (l0 : List Int) (a1 : Int) (r : Bool) (w : World) (hr0 : Kd.C (Kd.int .i64) w A0 l0.length l0) (hc0 : l0.length ≤ c0) (h : spec_l16Has.f k l0 a1 = some r) :
    Calls Try.prog 42 #[.slice A0 l0.length c0, .int .i64 a1] w fun e w' => e = .returned (.bool r) ∧ Drawn0 w w' := by
  have HR0 := Aside0.mk hr0
  have HC0 := Aside0.mk hc0
  clear hr0 hc0
  have H : (spec_l16Has.l0 k l0 a1 0) = some r := h
  clear h
  have H' := Aside0.mk H
  clear H
  go_enter Try.func42, Try.ntmps42
  go_wp2
  go_loopg [5] k (fun kq v5 w' => ∃ (x5_1 : Int), v5 = .int .i64 x5_1 ∧ Aside0 (spec_l16Has.l0 kq l0 a1 x5_1 = some r) ∧ Aside0 (kq ≤ k) ∧ Drawn0 w w')
  case atStart => exact ⟨(0), (by first | rfl | (simp; done) | (simp [*]; done)), H', ⟨Nat.le_refl _⟩, by repeat (first | exact Drawn0.refl _ | apply Drawn0.step)⟩
  case round =>
    clear H'
    try clear p2
    obtain ⟨x5_1, rfl, HA, HK1, ⟨m1, rfl⟩⟩ := hrel
    cases gk with
    | zero => exact absurd HA.out (by simp [spec_l16Has.l0])
    | succ k1 =>
      have H := HA.out
      clear HA
      simp only [spec_l16Has.l0] at H
      by_cases c3 : x5_1 < (l0.length : Int)
      · rw [if_pos c3] at H
        have c3b0 : decide (x5_1 < (l0.length : Int)) = true := decide_eq_true c3
        clear c3
        by_cases c4 : 0 ≤ x5_1
        · rw [if_pos c4] at H
          have c4b0 : decide (0 ≤ x5_1) = true := decide_eq_true c4
          clear c4
          by_cases c5 : (rd l0 x5_1) = a1
          · rw [if_pos c5] at H
            have c5b0 : ((rd l0 x5_1) == a1) = true := beq_iff_eq.mpr c5
            have c5b1 : ((rd l0 x5_1) != a1) = false := bne_eq_false_iff_eq.mpr c5
            clear c5
            obtain rfl := Option.some.inj H
            have p115 : 0 ≤ (x5_1 : Int) := of_decide_eq_true (by first | (with_reducible assumption) | assumption)
            have q115 : x5_1 < (l0.length : Int) := of_decide_eq_true (by first | (with_reducible assumption) | assumption)
            obtain ⟨ad115, e115, hx115_0⟩ := Kd.at_int HR0.out x5_1 p115 q115
            cases e115
            replace p115 := eq_true p115
            replace q115 := eq_true q115
            go_wp2
            go_ret
            exact ⟨by first | rfl | (simp; done) | (simp [*]; done), by repeat (first | exact Drawn0.refl _ | apply Drawn0.step)⟩
          · rw [if_neg c5] at H
            have c5b0 : ((rd l0 x5_1) == a1) = false := beq_eq_false_iff_ne.mpr c5
            have c5b1 : ((rd l0 x5_1) != a1) = true := bne_iff_ne.mpr c5
            have H' := Aside0.mk H
            clear H
            have p115 : 0 ≤ (x5_1 : Int) := of_decide_eq_true (by first | (with_reducible assumption) | assumption)
            have q115 : x5_1 < (l0.length : Int) := of_decide_eq_true (by first | (with_reducible assumption) | assumption)
            obtain ⟨ad115, e115, hx115_0⟩ := Kd.at_int HR0.out x5_1 p115 q115
            cases e115
            replace p115 := eq_true p115
            replace q115 := eq_true q115
            go_wp2
            go_roundg k1
            case measure => have := HK1.out; omega
            case rel => exact ⟨(wrap64 (x5_1 + 1)), (by first | rfl | (simp; done) | (simp [*]; done)), H', ⟨by have := HK1.out; omega⟩, by repeat (first | exact Drawn0.refl _ | apply Drawn0.step)⟩
        · rw [if_neg c4] at H
          exact absurd H (by simp)
      · rw [if_neg c3] at H
        have c3b0 : decide (x5_1 < (l0.length : Int)) = false := decide_eq_false c3
        clear c3
        obtain rfl := Option.some.inj H
        go_wp2
        go_ret
        exact ⟨by first | rfl | (simp; done) | (simp [*]; done), by repeat (first | exact Drawn0.refl _ | apply Drawn0.step)⟩
end Go.Proofs.Ytknckcakcknbbaa.P
namespace Go.Proofs.Ytknckcakcknbbaa.P
open Go.RowKit Go.Proofs.YtknckcakcknbbaaW.PrintWords Go.Proofs.YtknckcakcknbbaaW.PrintLast Go.Proofs.YtknckcakcknbbaaW.PrintMore
attribute [local go_sem] max2_int min2_int max_two min_two max_three min_three max_four min_four
set_option linter.unusedVariables false
set_option linter.unusedSimpArgs false
mutual
def spec_HeardUnlike.j0 : Nat → List (S73) → List (S73) → List Int → Bool → Option (List Int)
  | 0, _, _, _, _ => none
  | k + 1, x0, x1, x5, x17 => if x17 = true then (some x5) else ((spec_l16Slots.f k x0).bind fun t121 => ((spec_l16Slots.f k x1).bind fun t124 => (spec_HeardUnlike.l0 k x5 t121 t124 0)))
def spec_HeardUnlike.l0 : Nat → List Int → List Int → List Int → Int → Option (List Int)
  | 0, _, _, _, _ => none
  | k + 1, x5, x6, x7, x8 => if x8 < 16 then ((spec_l16Has.f k x6 x8).bind fun t127 => ((spec_l16Has.f k x7 x8).bind fun t128 => (if (t127 != t128) = true then (if x5.length < 17592186044416 then (spec_HeardUnlike.l0 k (x5 ++ [x8]) x6 x7 (wrap64 (x8 + 1))) else (none)) else (spec_HeardUnlike.l0 k x5 x6 x7 (wrap64 (x8 + 1)))))) else (some x5)
end
def spec_HeardUnlike.f (k : Nat) (l0 : List (S73)) (l1 : List (S73)) : Option (List Int) := (some (([] : List Int) : List Int)).bind fun y116 => ((spec_HeardOk.f k l0).bind fun t119 => (if t119 = true then ((spec_HeardOk.f k l1).bind fun t120 => (spec_HeardUnlike.j0 k l0 l1 y116 (!t120))) else (spec_HeardUnlike.j0 k l0 l1 y116 true)))
theorem spec_HeardUnlike.mono_l : ∀ k, (∀ y0 y1 y2 y3, LeO (spec_HeardUnlike.j0 k y0 y1 y2 y3) (spec_HeardUnlike.j0 (k + 1) y0 y1 y2 y3)) ∧ (∀ y0 y1 y2 y3, LeO (spec_HeardUnlike.l0 k y0 y1 y2 y3) (spec_HeardUnlike.l0 (k + 1) y0 y1 y2 y3))
  | 0 => ⟨fun _ _ _ _ r h => by simp [spec_HeardUnlike.j0] at h, fun _ _ _ _ r h => by simp [spec_HeardUnlike.l0] at h⟩
  | k + 1 => by
    obtain ⟨ih0, ih1⟩ := spec_HeardUnlike.mono_l k
    refine ⟨?_, ?_⟩
    · intro y0 y1 y2 y3
      unfold spec_HeardUnlike.j0
      repeat' first
      | (with_reducible exact ih0 _ _ _ _)
      | (with_reducible exact ih1 _ _ _ _)
      | (with_reducible exact spec_HeardOk.mono _ _)
      | (with_reducible exact spec_l16Has.mono _ _ _)
      | (with_reducible exact spec_l16Slots.mono _ _)
      | (with_reducible exact LeO.refl _)
      | (with_reducible exact LeO.none _)
      | (with_reducible refine LeO.ite ?_ ?_)
      | (with_reducible refine LeO.bind ?_ (fun _ => ?_))
      | exact ih0 _ _ _ _
      | exact ih1 _ _ _ _
      | exact spec_HeardOk.mono _ _
      | exact spec_l16Has.mono _ _ _
      | exact spec_l16Slots.mono _ _
      | exact LeO.none _
      | refine LeO.ite ?_ ?_
      | refine LeO.bind ?_ (fun _ => ?_)
    · intro y0 y1 y2 y3
      unfold spec_HeardUnlike.l0
      repeat' first
      | (with_reducible exact ih0 _ _ _ _)
      | (with_reducible exact ih1 _ _ _ _)
      | (with_reducible exact spec_HeardOk.mono _ _)
      | (with_reducible exact spec_l16Has.mono _ _ _)
      | (with_reducible exact spec_l16Slots.mono _ _)
      | (with_reducible exact LeO.refl _)
      | (with_reducible exact LeO.none _)
      | (with_reducible refine LeO.ite ?_ ?_)
      | (with_reducible refine LeO.bind ?_ (fun _ => ?_))
      | exact ih0 _ _ _ _
      | exact ih1 _ _ _ _
      | exact spec_HeardOk.mono _ _
      | exact spec_l16Has.mono _ _ _
      | exact spec_l16Slots.mono _ _
      | exact LeO.none _
      | refine LeO.ite ?_ ?_
      | refine LeO.bind ?_ (fun _ => ?_)
theorem spec_HeardUnlike.mono : ∀ a0 a1 k, LeO (spec_HeardUnlike.f k a0 a1) (spec_HeardUnlike.f (k + 1) a0 a1) := by
  intro a0 a1 k
  obtain ⟨ih0, ih1⟩ := spec_HeardUnlike.mono_l k
  unfold spec_HeardUnlike.f
  repeat' first
      | (with_reducible exact ih0 _ _ _ _)
      | (with_reducible exact ih1 _ _ _ _)
      | (with_reducible exact spec_HeardOk.mono _ _)
      | (with_reducible exact spec_l16Has.mono _ _ _)
      | (with_reducible exact spec_l16Slots.mono _ _)
      | (with_reducible exact LeO.refl _)
      | (with_reducible exact LeO.none _)
      | (with_reducible refine LeO.ite ?_ ?_)
      | (with_reducible refine LeO.bind ?_ (fun _ => ?_))
      | exact ih0 _ _ _ _
      | exact ih1 _ _ _ _
      | exact spec_HeardOk.mono _ _
      | exact spec_l16Has.mono _ _ _
      | exact spec_l16Slots.mono _ _
      | exact LeO.none _
      | refine LeO.ite ?_ ?_
      | refine LeO.bind ?_ (fun _ => ?_)
set_option maxHeartbeats 8000000 in
set_option maxRecDepth 100000 in
theorem spec_HeardUnlike.calls (k : Nat) (A0 : Option Addr) (c0 : Nat) (l0 : List (S73)) (A1 : Option Addr) (c1 : Nat) (l1 : List (S73)) (r : List Int) (w : World) (hr0 : Kd.C k73 w A0 l0.length l0) (hc0 : l0.length ≤ c0) (hr1 : Kd.C k73 w A1 l1.length l1) (hc1 : l1.length ≤ c1) (h : spec_HeardUnlike.f k l0 l1 = some r) :
    Calls Try.prog 10 #[.slice A0 l0.length c0, .slice A1 l1.length c1] w fun e w' => ∃ v0_ : Value, e = .returned (v0_) ∧ Kd.R (Kd.int .i64) 3 w' w.heap.size (fun _ => True) v0_ r ∧ Below w.heap.size w w' := by
  have HR0 := Aside0.mk hr0
  have HC0 := Aside0.mk hc0
  clear hr0 hc0
  have HR1 := Aside0.mk hr1
  have HC1 := Aside0.mk hc1
  clear hr1 hc1
  have HB := Aside0.mk (Below.refl w.heap.size w)
  have H : ((some (([] : List Int) : List Int)).bind fun y116 => ((spec_HeardOk.f k l0).bind fun t119 => (if t119 = true then ((spec_HeardOk.f k l1).bind fun t120 => (spec_HeardUnlike.j0 k l0 l1 y116 (!t120))) else (spec_HeardUnlike.j0 k l0 l1 y116 true)))) = some r := h
  clear h
  obtain ⟨y116, hy116⟩ : ∃ y_ : List Int, y_ = (([] : List Int)) := ⟨_, rfl⟩
  replace H : ((spec_HeardOk.f k l0).bind fun t119 => (if t119 = true then ((spec_HeardOk.f k l1).bind fun t120 => (spec_HeardUnlike.j0 k l0 l1 y116 (!t120))) else (spec_HeardUnlike.j0 k l0 l1 y116 true))) = some r := by first | (rw [hy116]; with_reducible exact H) | (have H2_ := (Option.bind_some _ _).symm.trans H; rw [hy116]; with_reducible exact H2_) | (have H2_ := (Option.bind_some _ _).symm.trans H; with_reducible exact H2_) | with_reducible exact H | (rw [hy116]; exact H) | exact H
  have Ny116 := Aside0.mk hy116
  clear hy116
  have HC3 := Aside0.mk H
  clear H
  go_enter Try.func10, Try.ntmps10
  go_upto_region 2 with (first | ((with_reducible refine gate_dst (N := 9) rfl ?_); refine Kd.R_lit (Kd.int .i64) _ 3 ?hg (N := 9) ?hd (xs := ([] : List Int)) (inner := []) (ok := fun _ => True) (okp := fun _ => True) ?hr ?hp (fun _ hk => hk) trivial (Below.refl _ _) (Nat.le_refl _) (by simp) ?_; (case hd => rfl); (case hg => rfl); (case hr => first | (go_simp; done) | (go_simp; rfl)); (case hp => exact (Reps.none _ _)); intro v117 w4 ho5 hb hg_ hnew_; clear hg_ hnew_; (first | rw [← Ny116.out] at ho5 | (simp only [Int.reduceToNat] at ho5; rw [← Ny116.out] at ho5)); have n0_ := Aside0.mk (Kd.R_lower ho5 (below_size (hb_ HB.out))); have n1_ := Aside0.mk (below_step (hb_ HB.out) hb); clear HB; have HO118 := n0_; have HB := n1_; clear n0_ n1_; clear hb ho5))
  (try simp only [Act.put, List.setIfInBounds_toArray, List.set_cons_zero, List.set_cons_succ])
  go_cut [17] (fun v17 wc => ∃ (kq : Nat) (x17_2 : Bool), v17 = .bool x17_2 ∧ Aside0 (spec_HeardUnlike.j0 kq l0 l1 y116 x17_2 = some r) ∧ Aside0 (kq ≤ k) ∧ Aside0 (Kd.R (Kd.int .i64) 3 wc w.heap.size (fun _ => True) v117 y116) ∧ Aside0 (Below w.heap.size w wc))
  case first =>
    have H := HC3.out
    clear HC3
    replace H := Option.bind_eq_some_iff.mp H
    obtain ⟨t119, A60, H⟩ := H
    replace H : (if t119 = true then ((spec_HeardOk.f k l1).bind fun t120 => (spec_HeardUnlike.j0 k l0 l1 y116 (!t120))) else (spec_HeardUnlike.j0 k l0 l1 y116 true)) = some r := H
    have A6 := Aside0.mk A60
    clear A60
    by_cases c7 : t119 = true
    · subst c7
      have H1 : ((spec_HeardOk.f k l1).bind fun t120 => (spec_HeardUnlike.j0 k l0 l1 y116 (!t120))) = some r := by rw [if_pos rfl] at H; exact H
      clear H
      have H := H1
      clear H1
      replace H := Option.bind_eq_some_iff.mp H
      obtain ⟨t120, A80, H⟩ := H
      replace H : (spec_HeardUnlike.j0 k l0 l1 y116 (!t120)) = some r := H
      have A8 := Aside0.mk A80
      clear A80
      have H' := Aside0.mk H
      clear H
      go_wp2_with (first | ((with_reducible refine gate_callee (f := 40) rfl ?_); refine goesL_ (some 11) rfl rfl Try.func40 (by kernel_rfl) rfl #[.slice A0 l0.length c0] rfl arr_ ?_; (with_reducible refine (spec_HeardOk.calls k _ _ l0 true _ ?side1 ?side2 A6.out).mono ?_); (case side1 => exact kc_ (Kd.C_below HR0.out HB.out)); (case side2 => exact HC0.out); rintro e w9 ⟨rfl, hb⟩; refine ⟨_, rfl, ?_⟩; have n0_ := Aside0.mk (Kd.R_below (by (with_reducible repeat (first | apply Kd.R_alloc | apply Kd.R_drewN | apply Kd.R_drew)); exact HO118.out) hb); have n1_ := Aside0.mk (below_step (hb_ HB.out) hb); clear HO118; clear HB; have HO118 := n0_; have HB := n1_; clear n0_ n1_; (try clear hb); (try clear hb2); (try clear hk); (try clear hi)) | (go_at_call 40; (with_reducible refine (spec_HeardOk.calls k _ _ l1 t120 _ ?side1 ?side2 A8.out).mono ?_); (case side1 => exact kc_ (Kd.C_below HR1.out HB.out)); (case side2 => exact HC1.out); rintro e w10 ⟨rfl, hb⟩; have n0_ := Aside0.mk (Kd.R_below (by (with_reducible repeat (first | apply Kd.R_alloc | apply Kd.R_drewN | apply Kd.R_drew)); exact HO118.out) hb); have n1_ := Aside0.mk (below_step (hb_ HB.out) hb); clear HO118; clear HB; have HO118 := n0_; have HB := n1_; clear n0_ n1_; (try clear hb); (try clear hb2); (try clear hk); (try clear hi)))
      go_meet
      case rel => exact ⟨_, (!t120), (by first | rfl | (simp; done) | (simp [*]; done)), H', ⟨by first | omega | exact Nat.le_refl _⟩, ⟨by (with_reducible repeat (first | apply Kd.R_alloc | apply Kd.R_drewN | apply Kd.R_drew)); exact HO118.out⟩, ⟨hb_ HB.out⟩⟩
    · replace c7 := Bool.eq_false_iff.mpr c7
      subst c7
      have H1 : (spec_HeardUnlike.j0 k l0 l1 y116 true) = some r := by rw [if_neg (show ¬ (false = true) by decide)] at H; exact H
      clear H
      have H := H1
      clear H1
      have H' := Aside0.mk H
      clear H
      go_wp2_with (first | ((with_reducible refine gate_callee (f := 40) rfl ?_); refine goesL_ (some 11) rfl rfl Try.func40 (by kernel_rfl) rfl #[.slice A0 l0.length c0] rfl arr_ ?_; (with_reducible refine (spec_HeardOk.calls k _ _ l0 false _ ?side1 ?side2 A6.out).mono ?_); (case side1 => exact kc_ (Kd.C_below HR0.out HB.out)); (case side2 => exact HC0.out); rintro e w11 ⟨rfl, hb⟩; refine ⟨_, rfl, ?_⟩; have n0_ := Aside0.mk (Kd.R_below (by (with_reducible repeat (first | apply Kd.R_alloc | apply Kd.R_drewN | apply Kd.R_drew)); exact HO118.out) hb); have n1_ := Aside0.mk (below_step (hb_ HB.out) hb); clear HO118; clear HB; have HO118 := n0_; have HB := n1_; clear n0_ n1_; (try clear hb); (try clear hb2); (try clear hk); (try clear hi)))
      go_meet
      case rel => exact ⟨_, (true), (by first | rfl | (simp; done) | (simp [*]; done)), H', ⟨by first | omega | exact Nat.le_refl _⟩, ⟨by (with_reducible repeat (first | apply Kd.R_alloc | apply Kd.R_drewN | apply Kd.R_drew)); exact HO118.out⟩, ⟨hb_ HB.out⟩⟩
  case rest =>
    clear HC3
    try clear c1
    try clear p2
    try clear c4
    try clear c7
    try clear c10
    obtain ⟨kq, x17_2, rfl, HA, HJ2, HO_5, HB⟩ := hcut
    cases kq with
    | zero => exact absurd HA.out (by simp [spec_HeardUnlike.j0])
    | succ kj2 =>
      have H := HA.out
      clear HA
      simp only [spec_HeardUnlike.j0] at H
      by_cases c12 : x17_2 = true
      · subst c12
        have H1 : (some y116) = some r := by rw [if_pos rfl] at H; exact H
        clear H
        have H := H1
        clear H1
        obtain rfl := Option.some.inj H
        go_wp2
        go_ret
        exact ⟨_, er_, by (with_reducible repeat (first | apply Kd.R_alloc | apply Kd.R_drewN | apply Kd.R_drew)); exact HO_5.out, hb_ HB.out⟩
      · replace c12 := Bool.eq_false_iff.mpr c12
        subst c12
        have H1 : ((spec_l16Slots.f kj2 l0).bind fun t121 => ((spec_l16Slots.f kj2 l1).bind fun t124 => (spec_HeardUnlike.l0 kj2 y116 t121 t124 0))) = some r := by rw [if_neg (show ¬ (false = true) by decide)] at H; exact H
        clear H
        have H := H1
        clear H1
        replace H := Option.bind_eq_some_iff.mp H
        obtain ⟨t121, A130, H⟩ := H
        replace H : ((spec_l16Slots.f kj2 l1).bind fun t124 => (spec_HeardUnlike.l0 kj2 y116 t121 t124 0)) = some r := H
        have A13 := Aside0.mk A130
        clear A130
        replace H := Option.bind_eq_some_iff.mp H
        obtain ⟨t124, A140, H⟩ := H
        replace H : (spec_HeardUnlike.l0 kj2 y116 t121 t124 0) = some r := H
        have A14 := Aside0.mk A140
        clear A140
        have H' := Aside0.mk H
        clear H
        go_wp2_with (first | ((with_reducible refine gate_callee (f := 41) rfl ?_); refine goesL_ (some 20) rfl rfl Try.func41 (by kernel_rfl) rfl #[.slice A0 l0.length c0] rfl arr_ ?_; (with_reducible refine (spec_l16Slots.calls kj2 _ _ l0 t121 _ ?side1 ?side2 A13.out).mono ?_); (case side1 => exact kc_ (Kd.C_below HR0.out HB.out)); (case side2 => exact HC0.out); rintro e w15 ⟨v122, rfl, ho0, hb⟩; refine ⟨_, rfl, ?_⟩; have n0_ := Aside0.mk (Kd.R_elder' (by (with_reducible repeat (first | apply Kd.R_alloc | apply Kd.R_drewN | apply Kd.R_drew)); exact HO_5.out) (Kd.R_base ho0) hb); have n1_ := Aside0.mk (Kd.R_lower (Kd.R_new' ho0 (Kd.R_lt (by (with_reducible repeat (first | apply Kd.R_alloc | apply Kd.R_drewN | apply Kd.R_drew)); exact HO_5.out))) (below_size (hb_ HB.out))); have n2_ := Aside0.mk (below_step (hb_ HB.out) hb); clear HO_5; clear HB; have HO_5 := n0_; have HO123 := n1_; have HB := n2_; clear n0_ n1_ n2_; (try clear hb); (try clear hb2); (try clear hk); (try clear hi); (try clear ho0)) | ((with_reducible refine gate_callee (f := 41) rfl ?_); refine goesL_ (some 22) rfl rfl Try.func41 (by kernel_rfl) rfl #[.slice A1 l1.length c1] rfl arr_ ?_; (with_reducible refine (spec_l16Slots.calls kj2 _ _ l1 t124 _ ?side1 ?side2 A14.out).mono ?_); (case side1 => exact kc_ (Kd.C_below HR1.out HB.out)); (case side2 => exact HC1.out); rintro e w16 ⟨v125, rfl, ho0, hb⟩; refine ⟨_, rfl, ?_⟩; have n0_ := Aside0.mk (Kd.R_elder' (by (with_reducible repeat (first | apply Kd.R_alloc | apply Kd.R_drewN | apply Kd.R_drew)); exact HO_5.out) (Kd.R_base ho0) hb); have n1_ := Aside0.mk (Kd.R_elder' (by (with_reducible repeat (first | apply Kd.R_alloc | apply Kd.R_drewN | apply Kd.R_drew)); exact HO123.out) (Kd.R_base ho0) hb); have n2_ := Aside0.mk (Kd.R_lower (Kd.R_new' (Kd.R_new' ho0 (Kd.R_lt (by (with_reducible repeat (first | apply Kd.R_alloc | apply Kd.R_drewN | apply Kd.R_drew)); exact HO_5.out))) (Kd.R_lt (by (with_reducible repeat (first | apply Kd.R_alloc | apply Kd.R_drewN | apply Kd.R_drew)); exact HO123.out))) (below_size (hb_ HB.out))); have n3_ := Aside0.mk (below_step (hb_ HB.out) hb); clear HO_5; clear HO123; clear HB; have HO_5 := n0_; have HO123 := n1_; have HO126 := n2_; have HB := n3_; clear n0_ n1_ n2_ n3_; (try clear hb); (try clear hb2); (try clear hk); (try clear hi); (try clear ho0)))
        go_loopg [5, 8] kj2 (fun kq v5 v8 w' => ∃ (x5_2 : List Int) (x8_2 : Int), v8 = .int .i64 x8_2 ∧ Aside0 (spec_HeardUnlike.l0 kq x5_2 t121 t124 x8_2 = some r) ∧ Aside0 (kq ≤ kj2) ∧ Aside0 (Kd.R (Kd.int .i64) 3 w' w.heap.size (fun k_ => some k_ ≠ (v122 : Value).ownBlock ∧ some k_ ≠ (v125 : Value).ownBlock) v5 x5_2) ∧ Aside0 (Kd.R (Kd.int .i64) 3 w' w.heap.size (fun k_ => some k_ ≠ (v5 : Value).ownBlock ∧ some k_ ≠ (v125 : Value).ownBlock) v122 t121) ∧ Aside0 (Kd.R (Kd.int .i64) 3 w' w.heap.size (fun k_ => some k_ ≠ (v5 : Value).ownBlock ∧ some k_ ≠ (v122 : Value).ownBlock) v125 t124) ∧ Aside0 (Below w.heap.size w w'))
        case atStart => exact ⟨(y116), (0), (by first | rfl | (simp; done) | (simp [*]; done)), H', ⟨Nat.le_refl _⟩, ⟨by (with_reducible repeat (first | apply Kd.R_alloc | apply Kd.R_drewN | apply Kd.R_drew)); exact Kd.R_mono HO_5.out (fun _ hk => ⟨hk.1.2, hk.2⟩)⟩, ⟨by (with_reducible repeat (first | apply Kd.R_alloc | apply Kd.R_drewN | apply Kd.R_drew)); exact Kd.R_mono HO123.out (fun _ hk => ⟨hk.1.2, hk.2⟩)⟩, ⟨by (with_reducible repeat (first | apply Kd.R_alloc | apply Kd.R_drewN | apply Kd.R_drew)); exact Kd.R_mono HO126.out (fun _ hk => ⟨hk.1.2, hk.2⟩)⟩, ⟨hb_ HB.out⟩⟩
        case round =>
          clear H'
          try clear c1
          try clear p2
          try clear c4
          try clear c7
          try clear c10
          try clear c12
          try clear p2
          obtain ⟨x5_2, x8_2, rfl, HA, HK2, HO_5, HO_6, HO_7, HB⟩ := hrel
          cases gk with
          | zero => exact absurd HA.out (by simp [spec_HeardUnlike.l0])
          | succ k2 =>
            have H := HA.out
            clear HA
            simp only [spec_HeardUnlike.l0] at H
            by_cases c17 : x8_2 < 16
            · rw [if_pos c17] at H
              have c17b0 : decide (x8_2 < 16) = true := decide_eq_true c17
              clear c17
              replace H := Option.bind_eq_some_iff.mp H
              obtain ⟨t127, A180, H⟩ := H
              replace H : ((spec_l16Has.f k2 t124 x8_2).bind fun t128 => (if (t127 != t128) = true then (if x5_2.length < 17592186044416 then (spec_HeardUnlike.l0 k2 (x5_2 ++ [x8_2]) t121 t124 (wrap64 (x8_2 + 1))) else (none)) else (spec_HeardUnlike.l0 k2 x5_2 t121 t124 (wrap64 (x8_2 + 1))))) = some r := H
              have A18 := Aside0.mk A180
              clear A180
              replace H := Option.bind_eq_some_iff.mp H
              obtain ⟨t128, A190, H⟩ := H
              replace H : (if (t127 != t128) = true then (if x5_2.length < 17592186044416 then (spec_HeardUnlike.l0 k2 (x5_2 ++ [x8_2]) t121 t124 (wrap64 (x8_2 + 1))) else (none)) else (spec_HeardUnlike.l0 k2 x5_2 t121 t124 (wrap64 (x8_2 + 1)))) = some r := H
              have A19 := Aside0.mk A190
              clear A190
              by_cases c20 : (t127 != t128) = true
              · rw [if_pos c20] at H
                have c20b0 : (t127 != t128) = true := c20
                (try (have c20b1 : decide (t127 = t128) = false := by simpa using c20))
                (try (have c20b2 : (t127 == t128) = false := by simpa using c20))
                (try (have c20b3 : ¬ (t127 = t128) := by simpa using c20))
                clear c20
                by_cases c21 : x5_2.length < 17592186044416
                · rw [if_pos c21] at H
                  have LMc21 := Aside0.mk c21
                  clear c21
                  obtain ⟨y129, hy129⟩ : ∃ y_ : List Int, y_ = (x5_2 ++ [x8_2]) := ⟨_, rfl⟩
                  replace H : (spec_HeardUnlike.l0 k2 y129 t121 t124 (wrap64 (x8_2 + 1))) = some r := by first | (rw [hy129]; with_reducible exact H) | (have H2_ := (Option.bind_some _ _).symm.trans H; rw [hy129]; with_reducible exact H2_) | (have H2_ := (Option.bind_some _ _).symm.trans H; with_reducible exact H2_) | with_reducible exact H | (rw [hy129]; exact H) | exact H
                  have Ny129 := Aside0.mk hy129
                  clear hy129
                  have H' := Aside0.mk H
                  clear H
                  obtain ⟨Ao22, co22, eo22⟩ := Kd.R_slice HO_6.out
                  subst eo22
                  go_wp2_with (first | ((with_reducible refine gate_callee (f := 42) rfl ?_); refine goesL_ (some 29) rfl rfl Try.func42 (by kernel_rfl) rfl #[.slice Ao22 t121.length co22, .int .i64 x8_2] rfl arr_ ?_; (with_reducible refine (spec_l16Has.calls k2 _ _ t121 x8_2 t127 _ ?side1 ?side2 A18.out).mono ?_); (case side1 => repeat (first | exact (Kd.R_reads' HO_6.out).2.2 | (with_reducible refine Kd.C_alloc ?_ _) | (with_reducible refine Kd.C_drewN ?_ _) | (with_reducible refine Kd.C_drew ?_))); (case side2 => exact (Kd.R_reads' HO_6.out).2.1); rintro e w' ⟨rfl, ⟨nd, rfl⟩⟩; refine ⟨_, rfl, ?_⟩; obtain ⟨Ao23, co23, eo23⟩ := Kd.R_slice HO_7.out; subst eo23) | ((with_reducible refine gate_callee (f := 42) rfl ?_); refine goesL_ (some 32) rfl rfl Try.func42 (by kernel_rfl) rfl #[.slice Ao23 t124.length co23, .int .i64 x8_2] rfl arr_ ?_; (with_reducible refine (spec_l16Has.calls k2 _ _ t124 x8_2 t128 _ ?side1 ?side2 A19.out).mono ?_); (case side1 => repeat (first | exact (Kd.R_reads' HO_7.out).2.2 | (with_reducible refine Kd.C_alloc ?_ _) | (with_reducible refine Kd.C_drewN ?_ _) | (with_reducible refine Kd.C_drew ?_))); (case side2 => exact (Kd.R_reads' HO_7.out).2.1); rintro e w' ⟨rfl, ⟨nd, rfl⟩⟩; refine ⟨_, rfl, ?_⟩) | ((with_reducible refine gate_builtin (b := .append) (xs := #[.tmp 34, .tmp 36]) rfl ?_); at_builtin; refine Kd.R_append (Kd.int .i64) (w0 := w) w.heap.size rfl (.tmp 34) (.tmp 36) 24 3 (.int .i64 0) 8 rfl Try.underlying24 info3 rfl (by decide) (by omega) u5 x5_2 x8_2 [.int .i64 x8_2] (fun k_ => some k_ ≠ (.slice Ao22 t121.length co22 : Value).ownBlock ∧ some k_ ≠ (.slice Ao23 t124.length co23 : Value).ownBlock) (fun _ => False) rfl rfl ?aP (fun _ hk => hk.elim) ?aF ?aO ?aB ?aS ?aL ?_; (case aP => exact rfl); (case aB => exact (hb_ HB.out)); (case aF => exact (fun k_ hk => ⟨Kd.fresh' (Kd.R_lt (by (with_reducible repeat (first | apply Kd.R_alloc | apply Kd.R_drewN | apply Kd.R_drew)); exact HO_6.out)) k_ hk, Kd.fresh' (Kd.R_lt (by (with_reducible repeat (first | apply Kd.R_alloc | apply Kd.R_drewN | apply Kd.R_drew)); exact HO_7.out)) k_ hk⟩)); (case aO => exact (by (with_reducible repeat (first | apply Kd.R_alloc | apply Kd.R_drewN | apply Kd.R_drew)); exact HO_5.out)); (case aS => exact (below_size (hb_ HB.out))); (case aL => have := LMc21.out; omega); intro v130 w24 ho hb hg hat; rw [← Ny129.out] at ho; have n0_ := Aside0.mk (Kd.R_after (ok := (fun k_ => some k_ ≠ (.slice Ao23 t124.length co23 : Value).ownBlock)) (by (with_reducible repeat (first | apply Kd.R_alloc | apply Kd.R_drewN | apply Kd.R_drew)); exact Kd.R_mono HO_6.out (fun _ hk => ⟨hk.2, hk.1⟩)) hg hat); have n1_ := Aside0.mk (Kd.R_after (ok := (fun k_ => some k_ ≠ (.slice Ao22 t121.length co22 : Value).ownBlock)) (by (with_reducible repeat (first | apply Kd.R_alloc | apply Kd.R_drewN | apply Kd.R_drew)); exact Kd.R_mono HO_7.out (fun _ hk => ⟨hk.2, hk.1⟩)) hg hat); have n2_ := Aside0.mk (hb); have n3_ := Aside0.mk (ho); clear HO_6; clear HO_7; clear HB; clear HO_5; have HO_6 := n0_; have HO_7 := n1_; have HB := n2_; have HO131 := n3_; clear n0_ n1_ n2_ n3_; clear ho hb hg hat))
                  go_roundg k2
                  case measure => have := HJ2.out; have := HK2.out; omega
                  case rel => exact ⟨(y129), (wrap64 (x8_2 + 1)), (by first | rfl | (simp; done) | (simp [*]; done)), H', ⟨by have := HJ2.out; have := HK2.out; omega⟩, ⟨by (with_reducible repeat (first | apply Kd.R_alloc | apply Kd.R_drewN | apply Kd.R_drew)); exact HO131.out⟩, ⟨by (with_reducible repeat (first | apply Kd.R_alloc | apply Kd.R_drewN | apply Kd.R_drew)); exact Kd.R_mono HO_6.out (fun _ hk => ⟨hk.2, hk.1⟩)⟩, ⟨by (with_reducible repeat (first | apply Kd.R_alloc | apply Kd.R_drewN | apply Kd.R_drew)); exact Kd.R_mono HO_7.out (fun _ hk => ⟨hk.2, hk.1⟩)⟩, ⟨hb_ HB.out⟩⟩
                · rw [if_neg c21] at H
                  exact absurd H (by simp)
              · rw [if_neg c20] at H
                have c20b0 : (t127 != t128) = false := by simpa using c20
                (try (have c20b1 : decide (t127 = t128) = true := by simpa using c20))
                (try (have c20b2 : (t127 == t128) = true := by simpa using c20))
                clear c20
                have H' := Aside0.mk H
                clear H
                obtain ⟨Ao25, co25, eo25⟩ := Kd.R_slice HO_6.out
                subst eo25
                go_wp2_with (first | ((with_reducible refine gate_callee (f := 42) rfl ?_); refine goesL_ (some 29) rfl rfl Try.func42 (by kernel_rfl) rfl #[.slice Ao25 t121.length co25, .int .i64 x8_2] rfl arr_ ?_; (with_reducible refine (spec_l16Has.calls k2 _ _ t121 x8_2 t127 _ ?side1 ?side2 A18.out).mono ?_); (case side1 => repeat (first | exact (Kd.R_reads' HO_6.out).2.2 | (with_reducible refine Kd.C_alloc ?_ _) | (with_reducible refine Kd.C_drewN ?_ _) | (with_reducible refine Kd.C_drew ?_))); (case side2 => exact (Kd.R_reads' HO_6.out).2.1); rintro e w' ⟨rfl, ⟨nd, rfl⟩⟩; refine ⟨_, rfl, ?_⟩; obtain ⟨Ao26, co26, eo26⟩ := Kd.R_slice HO_7.out; subst eo26) | ((with_reducible refine gate_callee (f := 42) rfl ?_); refine goesL_ (some 32) rfl rfl Try.func42 (by kernel_rfl) rfl #[.slice Ao26 t124.length co26, .int .i64 x8_2] rfl arr_ ?_; (with_reducible refine (spec_l16Has.calls k2 _ _ t124 x8_2 t128 _ ?side1 ?side2 A19.out).mono ?_); (case side1 => repeat (first | exact (Kd.R_reads' HO_7.out).2.2 | (with_reducible refine Kd.C_alloc ?_ _) | (with_reducible refine Kd.C_drewN ?_ _) | (with_reducible refine Kd.C_drew ?_))); (case side2 => exact (Kd.R_reads' HO_7.out).2.1); rintro e w' ⟨rfl, ⟨nd, rfl⟩⟩; refine ⟨_, rfl, ?_⟩))
                go_roundg k2
                case measure => have := HJ2.out; have := HK2.out; omega
                case rel => exact ⟨(x5_2), (wrap64 (x8_2 + 1)), (by first | rfl | (simp; done) | (simp [*]; done)), H', ⟨by have := HJ2.out; have := HK2.out; omega⟩, ⟨by (with_reducible repeat (first | apply Kd.R_alloc | apply Kd.R_drewN | apply Kd.R_drew)); exact HO_5.out⟩, ⟨by (with_reducible repeat (first | apply Kd.R_alloc | apply Kd.R_drewN | apply Kd.R_drew)); exact HO_6.out⟩, ⟨by (with_reducible repeat (first | apply Kd.R_alloc | apply Kd.R_drewN | apply Kd.R_drew)); exact HO_7.out⟩, ⟨hb_ HB.out⟩⟩
            · rw [if_neg c17] at H
              have c17b0 : decide (x8_2 < 16) = false := decide_eq_false c17
              clear c17
              obtain rfl := Option.some.inj H
              go_wp2
              go_ret
              exact ⟨_, er_, by (with_reducible repeat (first | apply Kd.R_alloc | apply Kd.R_drewN | apply Kd.R_drew)); exact Kd.R_mono HO_5.out (fun _ hk => trivial), hb_ HB.out⟩
end Go.Proofs.Ytknckcakcknbbaa.P

namespace Go.Proofs.Ytknckcakcknbbaa.P
open Go.RowKit Go.Proofs.YtknckcakcknbbaaW.PrintWords Go.Proofs.YtknckcakcknbbaaW.PrintLast Go.Proofs.YtknckcakcknbbaaW.PrintMore
attribute [local go_sem] max2_int min2_int max_two min_two max_three min_three max_four min_four
set_option linter.unusedVariables false
set_option linter.unusedSimpArgs false
def impl_slotsOf.l0 : Nat → List Int → List (S73) → Int → Int → Option (List Int)
  | 0, _, _, _, _ => none
  | k + 1, x3, x7, x8, x9 => if x9 < x8 then (if 0 ≤ x9 then (if x9 < (x7.length : Int) then (if x3.length < 17592186044416 then (impl_slotsOf.l0 k (x3 ++ [(rd_T73 x7 x9).f0]) x7 x8 (wrap64 (x9 + 1))) else (none)) else (none)) else (none)) else (some x3)
def impl_slotsOf.f (k : Nat) (l0 : List (S73)) : Option (List Int) := impl_slotsOf.l0 k (([] : List Int)) l0 (l0.length : Int) 0
theorem impl_slotsOf.mono_l : ∀ k, (∀ y0 y1 y2 y3, LeO (impl_slotsOf.l0 k y0 y1 y2 y3) (impl_slotsOf.l0 (k + 1) y0 y1 y2 y3))
  | 0 => fun _ _ _ _ r h => by simp [impl_slotsOf.l0] at h
  | k + 1 => by
    have ih0 := impl_slotsOf.mono_l k
    · intro y0 y1 y2 y3
      unfold impl_slotsOf.l0
      repeat' first
      | (with_reducible exact ih0 _ _ _ _)
      | (with_reducible exact LeO.refl _)
      | (with_reducible exact LeO.none _)
      | (with_reducible refine LeO.ite ?_ ?_)
      | (with_reducible refine LeO.bind ?_ (fun _ => ?_))
      | exact ih0 _ _ _ _
      | exact LeO.none _
      | refine LeO.ite ?_ ?_
      | refine LeO.bind ?_ (fun _ => ?_)
theorem impl_slotsOf.mono : ∀ a0 k, LeO (impl_slotsOf.f k a0) (impl_slotsOf.f (k + 1) a0) := by
  intro a0 k
  have ih0 := impl_slotsOf.mono_l k
  unfold impl_slotsOf.f
  repeat' first
      | (with_reducible exact ih0 _ _ _ _)
      | (with_reducible exact LeO.refl _)
      | (with_reducible exact LeO.none _)
      | (with_reducible refine LeO.ite ?_ ?_)
      | (with_reducible refine LeO.bind ?_ (fun _ => ?_))
      | exact ih0 _ _ _ _
      | exact LeO.none _
      | refine LeO.ite ?_ ?_
      | refine LeO.bind ?_ (fun _ => ?_)
set_option maxHeartbeats 8000000 in
set_option maxRecDepth 100000 in
theorem impl_slotsOf.calls (k : Nat) (A0 : Option Addr) (c0 : Nat) (l0 : List (S73)) (r : List Int) (w : World) (hr0 : Kd.C k73 w A0 l0.length l0) (hc0 : l0.length ≤ c0) (h : impl_slotsOf.f k l0 = some r) :
    Calls Try.prog 45 #[.slice A0 l0.length c0] w fun e w' => ∃ v0_ : Value, e = .returned (v0_) ∧ Kd.R (Kd.int .i64) 3 w' w.heap.size (fun _ => True) v0_ r ∧ Below w.heap.size w w' := by
  have hu73 := Try.underlying73
  have HR0 := Aside0.mk hr0
  have HC0 := Aside0.mk hc0
  clear hr0 hc0
  have HB := Aside0.mk (Below.refl w.heap.size w)
  have H : (impl_slotsOf.l0 k (([] : List Int)) l0 (l0.length : Int) 0) = some r := h
  clear h
  obtain ⟨y148, hy148⟩ : ∃ y_ : List Int, y_ = (([] : List Int)) := ⟨_, rfl⟩
  replace H : (impl_slotsOf.l0 k y148 l0 (l0.length : Int) 0) = some r := by first | (rw [hy148]; with_reducible exact H) | (have H2_ := (Option.bind_some _ _).symm.trans H; rw [hy148]; with_reducible exact H2_) | (have H2_ := (Option.bind_some _ _).symm.trans H; with_reducible exact H2_) | with_reducible exact H | (rw [hy148]; exact H) | exact H
  have Ny148 := Aside0.mk hy148
  clear hy148
  have H' := Aside0.mk H
  clear H
  go_enter Try.func45, Try.ntmps45
  go_wp2_with (first | ((with_reducible refine gate_dst (N := 6) rfl ?_); refine Kd.R_lit (Kd.int .i64) _ 3 ?hg (N := 6) ?hd (xs := ([] : List Int)) (inner := []) (ok := fun _ => True) (okp := fun _ => True) ?hr ?hp (fun _ hk => hk) trivial (Below.refl _ _) (Nat.le_refl _) (by simp) ?_; (case hd => rfl); (case hg => rfl); (case hr => first | (go_simp; done) | (go_simp; rfl)); (case hp => exact (Reps.none _ _)); intro v149 w2 ho3 hb hg_ hnew_; clear hg_ hnew_; (first | rw [← Ny148.out] at ho3 | (simp only [Int.reduceToNat] at ho3; rw [← Ny148.out] at ho3)); have n0_ := Aside0.mk (Kd.R_lower ho3 (below_size (hb_ HB.out))); have n1_ := Aside0.mk (below_step (hb_ HB.out) hb); clear HB; have HO150 := n0_; have HB := n1_; clear n0_ n1_; clear hb ho3))
  go_loopg [3, 9] k (fun kq v3 v9 w' => ∃ (x3_1 : List Int) (x9_1 : Int), v9 = .int .i64 x9_1 ∧ Aside0 (impl_slotsOf.l0 kq x3_1 l0 (l0.length : Int) x9_1 = some r) ∧ Aside0 (kq ≤ k) ∧ Aside0 (Kd.R (Kd.int .i64) 3 w' w.heap.size (fun _ => True) v3 x3_1) ∧ Aside0 (Below w.heap.size w w'))
  case atStart => exact ⟨(y148), (0), (by first | rfl | (simp; done) | (simp [*]; done)), H', ⟨Nat.le_refl _⟩, ⟨by (with_reducible repeat (first | apply Kd.R_alloc | apply Kd.R_drewN | apply Kd.R_drew)); exact HO150.out⟩, ⟨hb_ HB.out⟩⟩
  case round =>
    clear H'
    try clear p2
    obtain ⟨x3_1, x9_1, rfl, HA, HK1, HO_3, HB⟩ := hrel
    cases gk with
    | zero => exact absurd HA.out (by simp [impl_slotsOf.l0])
    | succ k1 =>
      have H := HA.out
      clear HA
      simp only [impl_slotsOf.l0] at H
      by_cases c4 : x9_1 < (l0.length : Int)
      · rw [if_pos c4] at H
        have c4b0 : decide (x9_1 < (l0.length : Int)) = true := decide_eq_true c4
        clear c4
        by_cases c5 : 0 ≤ x9_1
        · rw [if_pos c5] at H
          have c5b0 : decide (0 ≤ x9_1) = true := decide_eq_true c5
          clear c5
          by_cases c6 : x9_1 < (l0.length : Int)
          · rw [if_pos c6] at H
            have c6b0 : decide (x9_1 < (l0.length : Int)) = true := decide_eq_true c6
            clear c6
            by_cases c7 : x3_1.length < 17592186044416
            · rw [if_pos c7] at H
              have LMc7 := Aside0.mk c7
              clear c7
              obtain ⟨y153, hy153⟩ : ∃ y_ : List Int, y_ = (x3_1 ++ [(rd_T73 l0 x9_1).f0]) := ⟨_, rfl⟩
              replace H : (impl_slotsOf.l0 k1 y153 l0 (l0.length : Int) (wrap64 (x9_1 + 1))) = some r := by first | (rw [hy153]; with_reducible exact H) | (have H2_ := (Option.bind_some _ _).symm.trans H; rw [hy153]; with_reducible exact H2_) | (have H2_ := (Option.bind_some _ _).symm.trans H; with_reducible exact H2_) | with_reducible exact H | (rw [hy153]; exact H) | exact H
              have Ny153 := Aside0.mk hy153
              clear hy153
              have H' := Aside0.mk H
              clear H
              have p151 : 0 ≤ (x9_1 : Int) := of_decide_eq_true (by first | (with_reducible assumption) | assumption)
              have q151 : x9_1 < (l0.length : Int) := of_decide_eq_true (by first | (with_reducible assumption) | assumption)
              obtain ⟨ad151, e151, hx151_0, hx151_1⟩ := at_T73 HR0.out x9_1 p151 q151
              cases e151
              replace hx151_0 := (HB.out.cell (World.block_lt_of_cell? w _ hx151_0)).trans hx151_0
              replace hx151_1 := (HB.out.cell (World.block_lt_of_cell? w _ hx151_1)).trans hx151_1
              replace p151 := eq_true p151
              replace q151 := eq_true q151
              go_wp2_with (first | ((with_reducible refine gate_dst (N := 5) rfl ?_); refine box_event ?hg (N := 5) ?hd (cs := #[.int .i64 0, .int .i64 0]) (t := 73) ?hr ?_; (case hd => rfl); (case hg => rfl); (case hr => first | (go_simp; done) | (go_simp; rfl)); intro gb152 hg w8 hbox hb; have n0_ := Aside0.mk (Kd.R_below (by (with_reducible repeat (first | apply Kd.R_alloc | apply Kd.R_drewN | apply Kd.R_drew)); exact HO_3.out) hb); have n1_ := Aside0.mk (below_step (hb_ HB.out) hb); have n2_ := Aside0.mk (hbox); have n3_ := Aside0.mk ((by rw [hg]; exact (below_size (hb_ HB.out)) : w.heap.size ≤ gb152)); have n4_ := Aside0.mk ((by rw [hg]; exact (below_size (hb_ HB.out)) : w.heap.size ≤ gb152)); clear HO_3; clear HB; have HO_3 := n0_; have HB := n1_; have BK152 := n2_; have GW152 := n3_; have GE152 := n4_; clear n0_ n1_ n2_ n3_ n4_; clear hb hbox hg; have hcz9_0 := bc_ BK152.out 0 (.int .i64 0) rfl; have hcz9_1 := bc_ BK152.out 1 (.int .i64 0) rfl; have hfz9_0 := blk_frozen BK152.out 0; have hfz9_1 := blk_frozen BK152.out 1) | ((with_reducible refine gate_builtin (b := .append) (xs := #[.tmp 13, .tmp 16]) rfl ?_); at_builtin; refine Kd.R_append (Kd.int .i64) (w0 := w) w.heap.size rfl (.tmp 13) (.tmp 16) 24 3 (.int .i64 0) 8 rfl Try.underlying24 info3 rfl (by decide) (by omega) u3 x3_1 ((rd_T73 l0 x9_1).f0) [.int .i64 ((rd_T73 l0 x9_1).f0)] (fun _ => True) (fun _ => False) rfl (by first | (go_simp; done) | (go_simp; rfl)) ?aP (fun _ hk => hk.elim) ?aF ?aO ?aB ?aS ?aL ?_; (case aP => exact rfl); (case aB => exact (hb1_ HB.out GE152.out)); (case aF => exact (fun _ _ => trivial)); (case aO => exact (by (with_reducible repeat (first | apply Kd.R_alloc | apply Kd.R_drewN | apply Kd.R_drew)); exact Kd.R_mono (Kd.R_far (p := ⟨gb152, 1, none⟩) (Kd.R_far (p := ⟨gb152, 0, none⟩) (Kd.R_types HO_3.out BK152.out (by decide)) (fun _ hk => hk.2) (.int .i64 ((rd_T73 l0 x9_1).f0))) (fun _ hk => hk.2) (.int .i64 ((rd_T73 l0 x9_1).f1))) (fun _ hk => trivial))); (case aS => exact (below_size (hb1_ HB.out GE152.out))); (case aL => have := LMc7.out; omega); intro v154 w10 ho hb hg hat; rw [← Ny153.out] at ho; have n0_ := Aside0.mk (blk_grown (g := gb152) (o := .cells #[.int .i64 ((rd_T73 l0 x9_1).f0), .int .i64 ((rd_T73 l0 x9_1).f1)] 73 (0, 0)) (by (with_reducible repeat (first | refine blk_drewN ?_ _ | refine blk_drew ?_ | refine blk_alloc ?_ _)); refine blk_put (cs := #[.int .i64 ((rd_T73 l0 x9_1).f0), .int .i64 0]) ?_ 1 _ rfl; (with_reducible repeat (first | refine blk_drewN ?_ _ | refine blk_drew ?_ | refine blk_alloc ?_ _)); refine blk_put (cs := #[.int .i64 0, .int .i64 0]) ?_ 0 _ rfl; (with_reducible repeat (first | refine blk_drewN ?_ _ | refine blk_drew ?_ | refine blk_alloc ?_ _)); exact BK152.out) hg (Kd.R_ne HO_3.out BK152.out (by decide))); have n1_ := Aside0.mk (hb); have n2_ := Aside0.mk (ho); clear BK152; clear HB; clear HO_3; have BK152 := n0_; have HB := n1_; have HO155 := n2_; clear n0_ n1_ n2_; clear ho hb hg hat))
              go_roundg k1
              case measure => have := HK1.out; omega
              case rel => exact ⟨(y153), (wrap64 (x9_1 + 1)), (by first | rfl | (simp; done) | (simp [*]; done)), H', ⟨by have := HK1.out; omega⟩, ⟨by (with_reducible repeat (first | apply Kd.R_alloc | apply Kd.R_drewN | apply Kd.R_drew)); exact HO155.out⟩, ⟨hb1_ HB.out GE152.out⟩⟩
            · rw [if_neg c7] at H
              exact absurd H (by simp)
          · rw [if_neg c6] at H
            exact absurd H (by simp)
        · rw [if_neg c5] at H
          exact absurd H (by simp)
      · rw [if_neg c4] at H
        have c4b0 : decide (x9_1 < (l0.length : Int)) = false := decide_eq_false c4
        clear c4
        obtain rfl := Option.some.inj H
        go_wp2
        go_ret
        exact ⟨_, er_, by (with_reducible repeat (first | apply Kd.R_alloc | apply Kd.R_drewN | apply Kd.R_drew)); exact HO_3.out, hb_ HB.out⟩
def slices_Index_int.l0 : Nat → List Int → Int → Int → Int → Option (Int)
  | 0, _, _, _, _ => none
  | k + 1, x0, x1, x7, x8 => if x8 < x7 then (if 0 ≤ x8 then (if x8 < (x0.length : Int) then (if x1 = (rd x0 x8) then (some x8) else (slices_Index_int.l0 k x0 x1 x7 (wrap64 (x8 + 1)))) else (none)) else (none)) else (some (-1))
def slices_Index_int.f (k : Nat) (l0 : List Int) (a1 : Int) : Option (Int) := slices_Index_int.l0 k l0 a1 (l0.length : Int) 0
theorem slices_Index_int.mono_l : ∀ k, (∀ y0 y1 y2 y3, LeO (slices_Index_int.l0 k y0 y1 y2 y3) (slices_Index_int.l0 (k + 1) y0 y1 y2 y3))
  | 0 => fun _ _ _ _ r h => by simp [slices_Index_int.l0] at h
  | k + 1 => by
    have ih0 := slices_Index_int.mono_l k
    · intro y0 y1 y2 y3
      unfold slices_Index_int.l0
      repeat' first
      | (with_reducible exact ih0 _ _ _ _)
      | (with_reducible exact LeO.refl _)
      | (with_reducible exact LeO.none _)
      | (with_reducible refine LeO.ite ?_ ?_)
      | (with_reducible refine LeO.bind ?_ (fun _ => ?_))
      | exact ih0 _ _ _ _
      | exact LeO.none _
      | refine LeO.ite ?_ ?_
      | refine LeO.bind ?_ (fun _ => ?_)
theorem slices_Index_int.mono : ∀ a0 a1 k, LeO (slices_Index_int.f k a0 a1) (slices_Index_int.f (k + 1) a0 a1) := by
  intro a0 a1 k
  have ih0 := slices_Index_int.mono_l k
  unfold slices_Index_int.f
  repeat' first
      | (with_reducible exact ih0 _ _ _ _)
      | (with_reducible exact LeO.refl _)
      | (with_reducible exact LeO.none _)
      | (with_reducible refine LeO.ite ?_ ?_)
      | (with_reducible refine LeO.bind ?_ (fun _ => ?_))
      | exact ih0 _ _ _ _
      | exact LeO.none _
      | refine LeO.ite ?_ ?_
      | refine LeO.bind ?_ (fun _ => ?_)
set_option maxHeartbeats 8000000 in
set_option maxRecDepth 100000 in
theorem slices_Index_int.calls (k : Nat) (A0 : Option Addr) (c0 : Nat) (l0 : List Int) (a1 : Int) (r : Int) (w : World) (hr0 : Kd.C (Kd.int .i64) w A0 l0.length l0) (hc0 : l0.length ≤ c0) (h : slices_Index_int.f k l0 a1 = some r) :
    Calls Try.prog 81 #[.slice A0 l0.length c0, .int .i64 a1] w fun e w' => e = .returned (.int .i64 r) ∧ Drawn0 w w' := by
  have HR0 := Aside0.mk hr0
  have HC0 := Aside0.mk hc0
  clear hr0 hc0
  have H : (slices_Index_int.l0 k l0 a1 (l0.length : Int) 0) = some r := h
  clear h
  have H' := Aside0.mk H
  clear H
  go_enter Try.func81, Try.ntmps81
  go_wp2
  go_loopg [8] k (fun kq v8 w' => ∃ (x8_1 : Int), v8 = .int .i64 x8_1 ∧ Aside0 (slices_Index_int.l0 kq l0 a1 (l0.length : Int) x8_1 = some r) ∧ Aside0 (kq ≤ k) ∧ Drawn0 w w')
  case atStart => exact ⟨(0), (by first | rfl | (simp; done) | (simp [*]; done)), H', ⟨Nat.le_refl _⟩, by repeat (first | exact Drawn0.refl _ | apply Drawn0.step)⟩
  case round =>
    clear H'
    try clear p2
    obtain ⟨x8_1, rfl, HA, HK1, ⟨m1, rfl⟩⟩ := hrel
    cases gk with
    | zero => exact absurd HA.out (by simp [slices_Index_int.l0])
    | succ k1 =>
      have H := HA.out
      clear HA
      simp only [slices_Index_int.l0] at H
      by_cases c3 : x8_1 < (l0.length : Int)
      · rw [if_pos c3] at H
        have c3b0 : decide (x8_1 < (l0.length : Int)) = true := decide_eq_true c3
        clear c3
        by_cases c4 : 0 ≤ x8_1
        · rw [if_pos c4] at H
          have c4b0 : decide (0 ≤ x8_1) = true := decide_eq_true c4
          clear c4
          by_cases c5 : x8_1 < (l0.length : Int)
          · rw [if_pos c5] at H
            have c5b0 : decide (x8_1 < (l0.length : Int)) = true := decide_eq_true c5
            clear c5
            by_cases c6 : a1 = (rd l0 x8_1)
            · rw [if_pos c6] at H
              have c6b0 : (a1 == (rd l0 x8_1)) = true := beq_iff_eq.mpr c6
              have c6b1 : (a1 != (rd l0 x8_1)) = false := bne_eq_false_iff_eq.mpr c6
              clear c6
              obtain rfl := Option.some.inj H
              have p156 : 0 ≤ (x8_1 : Int) := of_decide_eq_true (by first | (with_reducible assumption) | assumption)
              have q156 : x8_1 < (l0.length : Int) := of_decide_eq_true (by first | (with_reducible assumption) | assumption)
              obtain ⟨ad156, e156, hx156_0⟩ := Kd.at_int HR0.out x8_1 p156 q156
              cases e156
              replace p156 := eq_true p156
              replace q156 := eq_true q156
              go_wp2
              go_ret
              exact ⟨by first | rfl | (simp; done) | (simp [*]; done), by repeat (first | exact Drawn0.refl _ | apply Drawn0.step)⟩
            · rw [if_neg c6] at H
              have c6b0 : (a1 == (rd l0 x8_1)) = false := beq_eq_false_iff_ne.mpr c6
              have c6b1 : (a1 != (rd l0 x8_1)) = true := bne_iff_ne.mpr c6
              have H' := Aside0.mk H
              clear H
              have p156 : 0 ≤ (x8_1 : Int) := of_decide_eq_true (by first | (with_reducible assumption) | assumption)
              have q156 : x8_1 < (l0.length : Int) := of_decide_eq_true (by first | (with_reducible assumption) | assumption)
              obtain ⟨ad156, e156, hx156_0⟩ := Kd.at_int HR0.out x8_1 p156 q156
              cases e156
              replace p156 := eq_true p156
              replace q156 := eq_true q156
              go_wp2
              go_roundg k1
              case measure => have := HK1.out; omega
              case rel => exact ⟨(wrap64 (x8_1 + 1)), (by first | rfl | (simp; done) | (simp [*]; done)), H', ⟨by have := HK1.out; omega⟩, by repeat (first | exact Drawn0.refl _ | apply Drawn0.step)⟩
          · rw [if_neg c5] at H
            exact absurd H (by simp)
        · rw [if_neg c4] at H
          exact absurd H (by simp)
      · rw [if_neg c3] at H
        have c3b0 : decide (x8_1 < (l0.length : Int)) = false := decide_eq_false c3
        clear c3
        obtain rfl := Option.some.inj H
        go_wp2
        go_ret
        exact ⟨by first | rfl | (simp; done) | (simp [*]; done), by repeat (first | exact Drawn0.refl _ | apply Drawn0.step)⟩
def slices_Contains_int.f (k : Nat) (l0 : List Int) (a1 : Int) : Option (Bool) := (slices_Index_int.f k l0 a1).bind fun t157 => (some (decide (t157 ≥ 0)))
theorem slices_Contains_int.mono : ∀ a0 a1 k, LeO (slices_Contains_int.f k a0 a1) (slices_Contains_int.f (k + 1) a0 a1) := by
  intro a0 a1 k
  unfold slices_Contains_int.f
  repeat' first
      | (with_reducible exact slices_Index_int.mono _ _ _)
      | (with_reducible exact LeO.refl _)
      | (with_reducible exact LeO.none _)
      | (with_reducible refine LeO.ite ?_ ?_)
      | (with_reducible refine LeO.bind ?_ (fun _ => ?_))
      | exact slices_Index_int.mono _ _ _
      | exact LeO.none _
      | refine LeO.ite ?_ ?_
      | refine LeO.bind ?_ (fun _ => ?_)
set_option maxHeartbeats 8000000 in
set_option maxRecDepth 100000 in
theorem slices_Contains_int.calls (k : Nat) (A0 : Option Addr) (c0 : Nat) (l0 : List Int) (a1 : Int) (r : Bool) (w : World) (hr0 : Kd.C (Kd.int .i64) w A0 l0.length l0) (hc0 : l0.length ≤ c0) (h : slices_Contains_int.f k l0 a1 = some r) :
    Calls Try.prog 46 #[.slice A0 l0.length c0, .int .i64 a1] w fun e w' => e = .returned (.bool r) ∧ Drawn0 w w' := by
  have HR0 := Aside0.mk hr0
  have HC0 := Aside0.mk hc0
  clear hr0 hc0
  have H : ((slices_Index_int.f k l0 a1).bind fun t157 => (some (decide (t157 ≥ 0)))) = some r := h
  clear h
  replace H := Option.bind_eq_some_iff.mp H
  obtain ⟨t157, A30, H⟩ := H
  replace H : (some (decide (t157 ≥ 0))) = some r := H
  have A3 := Aside0.mk A30
  clear A30
  obtain rfl := Option.some.inj H
  go_enter Try.func46, Try.ntmps46
  go_wp2_with (first | ((with_reducible refine gate_callee (f := 81) rfl ?_); refine goesL_ (some 7) rfl rfl Try.func81 (by kernel_rfl) rfl #[.slice A0 l0.length c0, .int .i64 a1] rfl arr_ ?_; (with_reducible refine (slices_Index_int.calls k _ _ l0 a1 t157 _ ?side1 ?side2 A3.out).mono ?_); (case side1 => repeat (first | exact HR0.out | (with_reducible refine Kd.C_alloc ?_ _) | (with_reducible refine Kd.C_drewN ?_ _) | (with_reducible refine Kd.C_drew ?_))); (case side2 => exact HC0.out); rintro e w' ⟨rfl, ⟨nd, rfl⟩⟩; refine ⟨_, rfl, ?_⟩))
  go_ret
  exact ⟨by first | rfl | (simp; done) | (simp [*]; done), by repeat (first | exact Drawn0.refl _ | apply Drawn0.step)⟩
end Go.Proofs.Ytknckcakcknbbaa.P
namespace Go.Proofs.Ytknckcakcknbbaa.P
open Go.RowKit Go.Proofs.YtknckcakcknbbaaW.PrintWords Go.Proofs.YtknckcakcknbbaaW.PrintLast Go.Proofs.YtknckcakcknbbaaW.PrintMore
attribute [local go_sem] max2_int min2_int max_two min_two max_three min_three max_four min_four
set_option linter.unusedVariables false
set_option linter.unusedSimpArgs false
mutual
def impl_HeardUnlike.j0 : Nat → List (S73) → List (S73) → Bool → Option (List Int)
  | 0, _, _, _ => none
  | k + 1, x0, x1, x16 => if x16 = true then (some ([] : List Int)) else ((impl_slotsOf.f k x0).bind fun t160 => ((impl_slotsOf.f k x1).bind fun t163 => (impl_HeardUnlike.l0 k t160 t163 (([] : List Int)) 0)))
def impl_HeardUnlike.l0 : Nat → List Int → List Int → List Int → Int → Option (List Int)
  | 0, _, _, _, _ => none
  | k + 1, x5, x6, x7, x22 => if x22 < 16 then ((slices_Contains_int.f k x5 x22).bind fun t169 => ((slices_Contains_int.f k x6 x22).bind fun t170 => (if (t169 != t170) = true then (if x7.length < 17592186044416 then (impl_HeardUnlike.l0 k x5 x6 (x7 ++ [x22]) (wrap64 (x22 + 1))) else (none)) else (impl_HeardUnlike.l0 k x5 x6 x7 (wrap64 (x22 + 1)))))) else (some x7)
end
def impl_HeardUnlike.f (k : Nat) (l0 : List (S73)) (l1 : List (S73)) : Option (List Int) := (impl_HeardOk.f k l0).bind fun t158 => (if t158 = true then ((impl_HeardOk.f k l1).bind fun t159 => (impl_HeardUnlike.j0 k l0 l1 (!t159))) else (impl_HeardUnlike.j0 k l0 l1 true))
theorem impl_HeardUnlike.mono_l : ∀ k, (∀ y0 y1 y2, LeO (impl_HeardUnlike.j0 k y0 y1 y2) (impl_HeardUnlike.j0 (k + 1) y0 y1 y2)) ∧ (∀ y0 y1 y2 y3, LeO (impl_HeardUnlike.l0 k y0 y1 y2 y3) (impl_HeardUnlike.l0 (k + 1) y0 y1 y2 y3))
  | 0 => ⟨fun _ _ _ r h => by simp [impl_HeardUnlike.j0] at h, fun _ _ _ _ r h => by simp [impl_HeardUnlike.l0] at h⟩
  | k + 1 => by
    obtain ⟨ih0, ih1⟩ := impl_HeardUnlike.mono_l k
    refine ⟨?_, ?_⟩
    · intro y0 y1 y2
      unfold impl_HeardUnlike.j0
      repeat' first
      | (with_reducible exact ih0 _ _ _)
      | (with_reducible exact ih1 _ _ _ _)
      | (with_reducible exact impl_HeardOk.mono _ _)
      | (with_reducible exact impl_slotsOf.mono _ _)
      | (with_reducible exact slices_Contains_int.mono _ _ _)
      | (with_reducible exact LeO.refl _)
      | (with_reducible exact LeO.none _)
      | (with_reducible refine LeO.ite ?_ ?_)
      | (with_reducible refine LeO.bind ?_ (fun _ => ?_))
      | exact ih0 _ _ _
      | exact ih1 _ _ _ _
      | exact impl_HeardOk.mono _ _
      | exact impl_slotsOf.mono _ _
      | exact slices_Contains_int.mono _ _ _
      | exact LeO.none _
      | refine LeO.ite ?_ ?_
      | refine LeO.bind ?_ (fun _ => ?_)
    · intro y0 y1 y2 y3
      unfold impl_HeardUnlike.l0
      repeat' first
      | (with_reducible exact ih0 _ _ _)
      | (with_reducible exact ih1 _ _ _ _)
      | (with_reducible exact impl_HeardOk.mono _ _)
      | (with_reducible exact impl_slotsOf.mono _ _)
      | (with_reducible exact slices_Contains_int.mono _ _ _)
      | (with_reducible exact LeO.refl _)
      | (with_reducible exact LeO.none _)
      | (with_reducible refine LeO.ite ?_ ?_)
      | (with_reducible refine LeO.bind ?_ (fun _ => ?_))
      | exact ih0 _ _ _
      | exact ih1 _ _ _ _
      | exact impl_HeardOk.mono _ _
      | exact impl_slotsOf.mono _ _
      | exact slices_Contains_int.mono _ _ _
      | exact LeO.none _
      | refine LeO.ite ?_ ?_
      | refine LeO.bind ?_ (fun _ => ?_)
theorem impl_HeardUnlike.mono : ∀ a0 a1 k, LeO (impl_HeardUnlike.f k a0 a1) (impl_HeardUnlike.f (k + 1) a0 a1) := by
  intro a0 a1 k
  obtain ⟨ih0, ih1⟩ := impl_HeardUnlike.mono_l k
  unfold impl_HeardUnlike.f
  repeat' first
      | (with_reducible exact ih0 _ _ _)
      | (with_reducible exact ih1 _ _ _ _)
      | (with_reducible exact impl_HeardOk.mono _ _)
      | (with_reducible exact impl_slotsOf.mono _ _)
      | (with_reducible exact slices_Contains_int.mono _ _ _)
      | (with_reducible exact LeO.refl _)
      | (with_reducible exact LeO.none _)
      | (with_reducible refine LeO.ite ?_ ?_)
      | (with_reducible refine LeO.bind ?_ (fun _ => ?_))
      | exact ih0 _ _ _
      | exact ih1 _ _ _ _
      | exact impl_HeardOk.mono _ _
      | exact impl_slotsOf.mono _ _
      | exact slices_Contains_int.mono _ _ _
      | exact LeO.none _
      | refine LeO.ite ?_ ?_
      | refine LeO.bind ?_ (fun _ => ?_)
set_option maxHeartbeats 8000000 in
set_option maxRecDepth 100000 in
theorem impl_HeardUnlike.calls (k : Nat) (A0 : Option Addr) (c0 : Nat) (l0 : List (S73)) (A1 : Option Addr) (c1 : Nat) (l1 : List (S73)) (r : List Int) (w : World) (hr0 : Kd.C k73 w A0 l0.length l0) (hc0 : l0.length ≤ c0) (hr1 : Kd.C k73 w A1 l1.length l1) (hc1 : l1.length ≤ c1) (h : impl_HeardUnlike.f k l0 l1 = some r) :
    Calls Try.prog 12 #[.slice A0 l0.length c0, .slice A1 l1.length c1] w fun e w' => ∃ v0_ : Value, e = .returned (v0_) ∧ Kd.R (Kd.int .i64) 3 w' w.heap.size (fun _ => True) v0_ r ∧ Below w.heap.size w w' := by
  have HR0 := Aside0.mk hr0
  have HC0 := Aside0.mk hc0
  clear hr0 hc0
  have HR1 := Aside0.mk hr1
  have HC1 := Aside0.mk hc1
  clear hr1 hc1
  have HB := Aside0.mk (Below.refl w.heap.size w)
  have H : ((impl_HeardOk.f k l0).bind fun t158 => (if t158 = true then ((impl_HeardOk.f k l1).bind fun t159 => (impl_HeardUnlike.j0 k l0 l1 (!t159))) else (impl_HeardUnlike.j0 k l0 l1 true))) = some r := h
  clear h
  have HC3 := Aside0.mk H
  clear H
  go_enter Try.func12, Try.ntmps12
  go_upto_region 1 with (fail)
  go_cut [16] (fun v16 wc => ∃ (kq : Nat) (x16_2 : Bool), v16 = .bool x16_2 ∧ Aside0 (impl_HeardUnlike.j0 kq l0 l1 x16_2 = some r) ∧ Aside0 (kq ≤ k) ∧ Aside0 (Below w.heap.size w wc))
  case first =>
    have H := HC3.out
    clear HC3
    replace H := Option.bind_eq_some_iff.mp H
    obtain ⟨t158, A40, H⟩ := H
    replace H : (if t158 = true then ((impl_HeardOk.f k l1).bind fun t159 => (impl_HeardUnlike.j0 k l0 l1 (!t159))) else (impl_HeardUnlike.j0 k l0 l1 true)) = some r := H
    have A4 := Aside0.mk A40
    clear A40
    by_cases c5 : t158 = true
    · subst c5
      have H1 : ((impl_HeardOk.f k l1).bind fun t159 => (impl_HeardUnlike.j0 k l0 l1 (!t159))) = some r := by rw [if_pos rfl] at H; exact H
      clear H
      have H := H1
      clear H1
      replace H := Option.bind_eq_some_iff.mp H
      obtain ⟨t159, A60, H⟩ := H
      replace H : (impl_HeardUnlike.j0 k l0 l1 (!t159)) = some r := H
      have A6 := Aside0.mk A60
      clear A60
      have H' := Aside0.mk H
      clear H
      go_wp2_with (first | ((with_reducible refine gate_callee (f := 44) rfl ?_); refine goesL_ (some 10) rfl rfl Try.func44 (by kernel_rfl) rfl #[.slice A0 l0.length c0] rfl arr_ ?_; (with_reducible refine (impl_HeardOk.calls k _ _ l0 true _ ?side1 ?side2 A4.out).mono ?_); (case side1 => exact kc_ (Kd.C_below HR0.out HB.out)); (case side2 => exact HC0.out); rintro e w7 ⟨rfl, hb⟩; refine ⟨_, rfl, ?_⟩; have n0_ := Aside0.mk (below_step (hb_ HB.out) hb); clear HB; have HB := n0_; clear n0_; (try clear hb); (try clear hb2); (try clear hk); (try clear hi)) | (go_at_call 44; (with_reducible refine (impl_HeardOk.calls k _ _ l1 t159 _ ?side1 ?side2 A6.out).mono ?_); (case side1 => exact kc_ (Kd.C_below HR1.out HB.out)); (case side2 => exact HC1.out); rintro e w8 ⟨rfl, hb⟩; have n0_ := Aside0.mk (below_step (hb_ HB.out) hb); clear HB; have HB := n0_; clear n0_; (try clear hb); (try clear hb2); (try clear hk); (try clear hi)))
      go_meet
      case rel => exact ⟨_, (!t159), (by first | rfl | (simp; done) | (simp [*]; done)), H', ⟨by first | omega | exact Nat.le_refl _⟩, ⟨hb_ HB.out⟩⟩
    · replace c5 := Bool.eq_false_iff.mpr c5
      subst c5
      have H1 : (impl_HeardUnlike.j0 k l0 l1 true) = some r := by rw [if_neg (show ¬ (false = true) by decide)] at H; exact H
      clear H
      have H := H1
      clear H1
      have H' := Aside0.mk H
      clear H
      go_wp2_with (first | ((with_reducible refine gate_callee (f := 44) rfl ?_); refine goesL_ (some 10) rfl rfl Try.func44 (by kernel_rfl) rfl #[.slice A0 l0.length c0] rfl arr_ ?_; (with_reducible refine (impl_HeardOk.calls k _ _ l0 false _ ?side1 ?side2 A4.out).mono ?_); (case side1 => exact kc_ (Kd.C_below HR0.out HB.out)); (case side2 => exact HC0.out); rintro e w9 ⟨rfl, hb⟩; refine ⟨_, rfl, ?_⟩; have n0_ := Aside0.mk (below_step (hb_ HB.out) hb); clear HB; have HB := n0_; clear n0_; (try clear hb); (try clear hb2); (try clear hk); (try clear hi)))
      go_meet
      case rel => exact ⟨_, (true), (by first | rfl | (simp; done) | (simp [*]; done)), H', ⟨by first | omega | exact Nat.le_refl _⟩, ⟨hb_ HB.out⟩⟩
  case rest =>
    clear HC3
    try clear c1
    try clear p2
    try clear c4
    try clear c5
    obtain ⟨kq, x16_2, rfl, HA, HJ2, HB⟩ := hcut
    cases kq with
    | zero => exact absurd HA.out (by simp [impl_HeardUnlike.j0])
    | succ kj2 =>
      have H := HA.out
      clear HA
      simp only [impl_HeardUnlike.j0] at H
      by_cases c10 : x16_2 = true
      · subst c10
        have H1 : (some ([] : List Int)) = some r := by rw [if_pos rfl] at H; exact H
        clear H
        have H := H1
        clear H1
        obtain rfl := Option.some.inj H
        go_wp2
        go_ret
        exact ⟨_, er_, by first | exact Kd.R_nil _ _ _ _ _ | exact Kd.N_nil _ _ _ _ _ | exact Kd.V_nil _ _ _ _ _ | exact Kd.Q_nil _ _ _ _ _ | exact Kd.S_nil _ _ _ _ _, hb_ HB.out⟩
      · replace c10 := Bool.eq_false_iff.mpr c10
        subst c10
        have H1 : ((impl_slotsOf.f kj2 l0).bind fun t160 => ((impl_slotsOf.f kj2 l1).bind fun t163 => (impl_HeardUnlike.l0 kj2 t160 t163 (([] : List Int)) 0))) = some r := by rw [if_neg (show ¬ (false = true) by decide)] at H; exact H
        clear H
        have H := H1
        clear H1
        replace H := Option.bind_eq_some_iff.mp H
        obtain ⟨t160, A110, H⟩ := H
        replace H : ((impl_slotsOf.f kj2 l1).bind fun t163 => (impl_HeardUnlike.l0 kj2 t160 t163 (([] : List Int)) 0)) = some r := H
        have A11 := Aside0.mk A110
        clear A110
        replace H := Option.bind_eq_some_iff.mp H
        obtain ⟨t163, A120, H⟩ := H
        replace H : (impl_HeardUnlike.l0 kj2 t160 t163 (([] : List Int)) 0) = some r := H
        have A12 := Aside0.mk A120
        clear A120
        obtain ⟨y166, hy166⟩ : ∃ y_ : List Int, y_ = (([] : List Int)) := ⟨_, rfl⟩
        replace H : (impl_HeardUnlike.l0 kj2 t160 t163 y166 0) = some r := by first | (rw [hy166]; with_reducible exact H) | (have H2_ := (Option.bind_some _ _).symm.trans H; rw [hy166]; with_reducible exact H2_) | (have H2_ := (Option.bind_some _ _).symm.trans H; with_reducible exact H2_) | with_reducible exact H | (rw [hy166]; exact H) | exact H
        have Ny166 := Aside0.mk hy166
        clear hy166
        have H' := Aside0.mk H
        clear H
        go_wp2_with (first | ((with_reducible refine gate_callee (f := 45) rfl ?_); refine goesL_ (some 18) rfl rfl Try.func45 (by kernel_rfl) rfl #[.slice A0 l0.length c0] rfl arr_ ?_; (with_reducible refine (impl_slotsOf.calls kj2 _ _ l0 t160 _ ?side1 ?side2 A11.out).mono ?_); (case side1 => exact kc_ (Kd.C_below HR0.out HB.out)); (case side2 => exact HC0.out); rintro e w13 ⟨v161, rfl, ho0, hb⟩; refine ⟨_, rfl, ?_⟩; have n0_ := Aside0.mk (Kd.R_lower ho0 (below_size (hb_ HB.out))); have n1_ := Aside0.mk (below_step (hb_ HB.out) hb); clear HB; have HO162 := n0_; have HB := n1_; clear n0_ n1_; (try clear hb); (try clear hb2); (try clear hk); (try clear hi); (try clear ho0)) | ((with_reducible refine gate_callee (f := 45) rfl ?_); refine goesL_ (some 20) rfl rfl Try.func45 (by kernel_rfl) rfl #[.slice A1 l1.length c1] rfl arr_ ?_; (with_reducible refine (impl_slotsOf.calls kj2 _ _ l1 t163 _ ?side1 ?side2 A12.out).mono ?_); (case side1 => exact kc_ (Kd.C_below HR1.out HB.out)); (case side2 => exact HC1.out); rintro e w14 ⟨v164, rfl, ho0, hb⟩; refine ⟨_, rfl, ?_⟩; have n0_ := Aside0.mk (Kd.R_elder' (by (with_reducible repeat (first | apply Kd.R_alloc | apply Kd.R_drewN | apply Kd.R_drew)); exact HO162.out) (Kd.R_base ho0) hb); have n1_ := Aside0.mk (Kd.R_lower (Kd.R_new' ho0 (Kd.R_lt (by (with_reducible repeat (first | apply Kd.R_alloc | apply Kd.R_drewN | apply Kd.R_drew)); exact HO162.out))) (below_size (hb_ HB.out))); have n2_ := Aside0.mk (below_step (hb_ HB.out) hb); clear HO162; clear HB; have HO162 := n0_; have HO165 := n1_; have HB := n2_; clear n0_ n1_ n2_; (try clear hb); (try clear hb2); (try clear hk); (try clear hi); (try clear ho0)) | ((with_reducible refine gate_dst (N := 21) rfl ?_); refine Kd.R_lit (Kd.int .i64) _ 3 ?hg (N := 21) ?hd (xs := ([] : List Int)) (inner := []) (ok := fun _ => True) (okp := fun _ => True) ?hr ?hp (fun _ hk => hk) trivial (Below.refl _ _) (Nat.le_refl _) (by simp) ?_; (case hd => rfl); (case hg => rfl); (case hr => first | (go_simp; done) | (go_simp; rfl)); (case hp => exact (Reps.none _ _)); intro v167 w15 ho16 hb hg_ hnew_; clear hg_ hnew_; (first | rw [← Ny166.out] at ho16 | (simp only [Int.reduceToNat] at ho16; rw [← Ny166.out] at ho16)); have n0_ := Aside0.mk (Kd.R_elder' (by (with_reducible repeat (first | apply Kd.R_alloc | apply Kd.R_drewN | apply Kd.R_drew)); exact HO162.out) (Kd.R_base ho16) hb); have n1_ := Aside0.mk (Kd.R_elder' (by (with_reducible repeat (first | apply Kd.R_alloc | apply Kd.R_drewN | apply Kd.R_drew)); exact HO165.out) (Kd.R_base ho16) hb); have n2_ := Aside0.mk (Kd.R_lower (Kd.R_new' (Kd.R_new' ho16 (Kd.R_lt (by (with_reducible repeat (first | apply Kd.R_alloc | apply Kd.R_drewN | apply Kd.R_drew)); exact HO162.out))) (Kd.R_lt (by (with_reducible repeat (first | apply Kd.R_alloc | apply Kd.R_drewN | apply Kd.R_drew)); exact HO165.out))) (below_size (hb_ HB.out))); have n3_ := Aside0.mk (below_step (hb_ HB.out) hb); clear HO162; clear HO165; clear HB; have HO162 := n0_; have HO165 := n1_; have HO168 := n2_; have HB := n3_; clear n0_ n1_ n2_ n3_; clear hb ho16))
        go_loopg [7, 22] kj2 (fun kq v7 v22 w' => ∃ (x7_2 : List Int) (x22_2 : Int), v22 = .int .i64 x22_2 ∧ Aside0 (impl_HeardUnlike.l0 kq t160 t163 x7_2 x22_2 = some r) ∧ Aside0 (kq ≤ kj2) ∧ Aside0 (Kd.R (Kd.int .i64) 3 w' w.heap.size (fun k_ => some k_ ≠ (v164 : Value).ownBlock ∧ some k_ ≠ (v7 : Value).ownBlock) v161 t160) ∧ Aside0 (Kd.R (Kd.int .i64) 3 w' w.heap.size (fun k_ => some k_ ≠ (v161 : Value).ownBlock ∧ some k_ ≠ (v7 : Value).ownBlock) v164 t163) ∧ Aside0 (Kd.R (Kd.int .i64) 3 w' w.heap.size (fun k_ => some k_ ≠ (v161 : Value).ownBlock ∧ some k_ ≠ (v164 : Value).ownBlock) v7 x7_2) ∧ Aside0 (Below w.heap.size w w'))
        case atStart => exact ⟨(y166), (0), (by first | rfl | (simp; done) | (simp [*]; done)), H', ⟨Nat.le_refl _⟩, ⟨by (with_reducible repeat (first | apply Kd.R_alloc | apply Kd.R_drewN | apply Kd.R_drew)); exact Kd.R_mono HO162.out (fun _ hk => ⟨hk.1.2, hk.2⟩)⟩, ⟨by (with_reducible repeat (first | apply Kd.R_alloc | apply Kd.R_drewN | apply Kd.R_drew)); exact Kd.R_mono HO165.out (fun _ hk => ⟨hk.1.2, hk.2⟩)⟩, ⟨by (with_reducible repeat (first | apply Kd.R_alloc | apply Kd.R_drewN | apply Kd.R_drew)); exact Kd.R_mono HO168.out (fun _ hk => ⟨hk.1.2, hk.2⟩)⟩, ⟨hb_ HB.out⟩⟩
        case round =>
          clear H'
          try clear c1
          try clear p2
          try clear c4
          try clear c5
          try clear c10
          try clear c12
          try clear p2
          obtain ⟨x7_2, x22_2, rfl, HA, HK2, HO_5, HO_6, HO_7, HB⟩ := hrel
          cases gk with
          | zero => exact absurd HA.out (by simp [impl_HeardUnlike.l0])
          | succ k2 =>
            have H := HA.out
            clear HA
            simp only [impl_HeardUnlike.l0] at H
            by_cases c17 : x22_2 < 16
            · rw [if_pos c17] at H
              have c17b0 : decide (x22_2 < 16) = true := decide_eq_true c17
              clear c17
              replace H := Option.bind_eq_some_iff.mp H
              obtain ⟨t169, A180, H⟩ := H
              replace H : ((slices_Contains_int.f k2 t163 x22_2).bind fun t170 => (if (t169 != t170) = true then (if x7_2.length < 17592186044416 then (impl_HeardUnlike.l0 k2 t160 t163 (x7_2 ++ [x22_2]) (wrap64 (x22_2 + 1))) else (none)) else (impl_HeardUnlike.l0 k2 t160 t163 x7_2 (wrap64 (x22_2 + 1))))) = some r := H
              have A18 := Aside0.mk A180
              clear A180
              replace H := Option.bind_eq_some_iff.mp H
              obtain ⟨t170, A190, H⟩ := H
              replace H : (if (t169 != t170) = true then (if x7_2.length < 17592186044416 then (impl_HeardUnlike.l0 k2 t160 t163 (x7_2 ++ [x22_2]) (wrap64 (x22_2 + 1))) else (none)) else (impl_HeardUnlike.l0 k2 t160 t163 x7_2 (wrap64 (x22_2 + 1)))) = some r := H
              have A19 := Aside0.mk A190
              clear A190
              by_cases c20 : (t169 != t170) = true
              · rw [if_pos c20] at H
                have c20b0 : (t169 != t170) = true := c20
                (try (have c20b1 : decide (t169 = t170) = false := by simpa using c20))
                (try (have c20b2 : (t169 == t170) = false := by simpa using c20))
                (try (have c20b3 : ¬ (t169 = t170) := by simpa using c20))
                clear c20
                by_cases c21 : x7_2.length < 17592186044416
                · rw [if_pos c21] at H
                  have LMc21 := Aside0.mk c21
                  clear c21
                  obtain ⟨y171, hy171⟩ : ∃ y_ : List Int, y_ = (x7_2 ++ [x22_2]) := ⟨_, rfl⟩
                  replace H : (impl_HeardUnlike.l0 k2 t160 t163 y171 (wrap64 (x22_2 + 1))) = some r := by first | (rw [hy171]; with_reducible exact H) | (have H2_ := (Option.bind_some _ _).symm.trans H; rw [hy171]; with_reducible exact H2_) | (have H2_ := (Option.bind_some _ _).symm.trans H; with_reducible exact H2_) | with_reducible exact H | (rw [hy171]; exact H) | exact H
                  have Ny171 := Aside0.mk hy171
                  clear hy171
                  have H' := Aside0.mk H
                  clear H
                  obtain ⟨Ao22, co22, eo22⟩ := Kd.R_slice HO_5.out
                  subst eo22
                  go_wp2_with (first | ((with_reducible refine gate_callee (f := 46) rfl ?_); refine goesL_ (some 27) rfl rfl Try.func46 (by kernel_rfl) rfl #[.slice Ao22 t160.length co22, .int .i64 x22_2] rfl arr_ ?_; (with_reducible refine (slices_Contains_int.calls k2 _ _ t160 x22_2 t169 _ ?side1 ?side2 A18.out).mono ?_); (case side1 => repeat (first | exact (Kd.R_reads' HO_5.out).2.2 | (with_reducible refine Kd.C_alloc ?_ _) | (with_reducible refine Kd.C_drewN ?_ _) | (with_reducible refine Kd.C_drew ?_))); (case side2 => exact (Kd.R_reads' HO_5.out).2.1); rintro e w' ⟨rfl, ⟨nd, rfl⟩⟩; refine ⟨_, rfl, ?_⟩; obtain ⟨Ao23, co23, eo23⟩ := Kd.R_slice HO_6.out; subst eo23) | ((with_reducible refine gate_callee (f := 46) rfl ?_); refine goesL_ (some 30) rfl rfl Try.func46 (by kernel_rfl) rfl #[.slice Ao23 t163.length co23, .int .i64 x22_2] rfl arr_ ?_; (with_reducible refine (slices_Contains_int.calls k2 _ _ t163 x22_2 t170 _ ?side1 ?side2 A19.out).mono ?_); (case side1 => repeat (first | exact (Kd.R_reads' HO_6.out).2.2 | (with_reducible refine Kd.C_alloc ?_ _) | (with_reducible refine Kd.C_drewN ?_ _) | (with_reducible refine Kd.C_drew ?_))); (case side2 => exact (Kd.R_reads' HO_6.out).2.1); rintro e w' ⟨rfl, ⟨nd, rfl⟩⟩; refine ⟨_, rfl, ?_⟩) | ((with_reducible refine gate_builtin (b := .append) (xs := #[.tmp 32, .tmp 34]) rfl ?_); at_builtin; refine Kd.R_append (Kd.int .i64) (w0 := w) w.heap.size rfl (.tmp 32) (.tmp 34) 24 3 (.int .i64 0) 8 rfl Try.underlying24 info3 rfl (by decide) (by omega) u7 x7_2 x22_2 [.int .i64 x22_2] (fun k_ => some k_ ≠ (.slice Ao22 t160.length co22 : Value).ownBlock ∧ some k_ ≠ (.slice Ao23 t163.length co23 : Value).ownBlock) (fun _ => False) rfl rfl ?aP (fun _ hk => hk.elim) ?aF ?aO ?aB ?aS ?aL ?_; (case aP => exact rfl); (case aB => exact (hb_ HB.out)); (case aF => exact (fun k_ hk => ⟨Kd.fresh' (Kd.R_lt (by (with_reducible repeat (first | apply Kd.R_alloc | apply Kd.R_drewN | apply Kd.R_drew)); exact HO_5.out)) k_ hk, Kd.fresh' (Kd.R_lt (by (with_reducible repeat (first | apply Kd.R_alloc | apply Kd.R_drewN | apply Kd.R_drew)); exact HO_6.out)) k_ hk⟩)); (case aO => exact (by (with_reducible repeat (first | apply Kd.R_alloc | apply Kd.R_drewN | apply Kd.R_drew)); exact HO_7.out)); (case aS => exact (below_size (hb_ HB.out))); (case aL => have := LMc21.out; omega); intro v172 w24 ho hb hg hat; rw [← Ny171.out] at ho; have n0_ := Aside0.mk (Kd.R_after (ok := (fun k_ => some k_ ≠ (.slice Ao23 t163.length co23 : Value).ownBlock)) (by (with_reducible repeat (first | apply Kd.R_alloc | apply Kd.R_drewN | apply Kd.R_drew)); exact HO_5.out) hg hat); have n1_ := Aside0.mk (Kd.R_after (ok := (fun k_ => some k_ ≠ (.slice Ao22 t160.length co22 : Value).ownBlock)) (by (with_reducible repeat (first | apply Kd.R_alloc | apply Kd.R_drewN | apply Kd.R_drew)); exact HO_6.out) hg hat); have n2_ := Aside0.mk (hb); have n3_ := Aside0.mk (ho); clear HO_5; clear HO_6; clear HB; clear HO_7; have HO_5 := n0_; have HO_6 := n1_; have HB := n2_; have HO173 := n3_; clear n0_ n1_ n2_ n3_; clear ho hb hg hat))
                  go_roundg k2
                  case measure => have := HJ2.out; have := HK2.out; omega
                  case rel => exact ⟨(y171), (wrap64 (x22_2 + 1)), (by first | rfl | (simp; done) | (simp [*]; done)), H', ⟨by have := HJ2.out; have := HK2.out; omega⟩, ⟨by (with_reducible repeat (first | apply Kd.R_alloc | apply Kd.R_drewN | apply Kd.R_drew)); exact HO_5.out⟩, ⟨by (with_reducible repeat (first | apply Kd.R_alloc | apply Kd.R_drewN | apply Kd.R_drew)); exact HO_6.out⟩, ⟨by (with_reducible repeat (first | apply Kd.R_alloc | apply Kd.R_drewN | apply Kd.R_drew)); exact HO173.out⟩, ⟨hb_ HB.out⟩⟩
                · rw [if_neg c21] at H
                  exact absurd H (by simp)
              · rw [if_neg c20] at H
                have c20b0 : (t169 != t170) = false := by simpa using c20
                (try (have c20b1 : decide (t169 = t170) = true := by simpa using c20))
                (try (have c20b2 : (t169 == t170) = true := by simpa using c20))
                clear c20
                have H' := Aside0.mk H
                clear H
                obtain ⟨Ao25, co25, eo25⟩ := Kd.R_slice HO_5.out
                subst eo25
                go_wp2_with (first | ((with_reducible refine gate_callee (f := 46) rfl ?_); refine goesL_ (some 27) rfl rfl Try.func46 (by kernel_rfl) rfl #[.slice Ao25 t160.length co25, .int .i64 x22_2] rfl arr_ ?_; (with_reducible refine (slices_Contains_int.calls k2 _ _ t160 x22_2 t169 _ ?side1 ?side2 A18.out).mono ?_); (case side1 => repeat (first | exact (Kd.R_reads' HO_5.out).2.2 | (with_reducible refine Kd.C_alloc ?_ _) | (with_reducible refine Kd.C_drewN ?_ _) | (with_reducible refine Kd.C_drew ?_))); (case side2 => exact (Kd.R_reads' HO_5.out).2.1); rintro e w' ⟨rfl, ⟨nd, rfl⟩⟩; refine ⟨_, rfl, ?_⟩; obtain ⟨Ao26, co26, eo26⟩ := Kd.R_slice HO_6.out; subst eo26) | ((with_reducible refine gate_callee (f := 46) rfl ?_); refine goesL_ (some 30) rfl rfl Try.func46 (by kernel_rfl) rfl #[.slice Ao26 t163.length co26, .int .i64 x22_2] rfl arr_ ?_; (with_reducible refine (slices_Contains_int.calls k2 _ _ t163 x22_2 t170 _ ?side1 ?side2 A19.out).mono ?_); (case side1 => repeat (first | exact (Kd.R_reads' HO_6.out).2.2 | (with_reducible refine Kd.C_alloc ?_ _) | (with_reducible refine Kd.C_drewN ?_ _) | (with_reducible refine Kd.C_drew ?_))); (case side2 => exact (Kd.R_reads' HO_6.out).2.1); rintro e w' ⟨rfl, ⟨nd, rfl⟩⟩; refine ⟨_, rfl, ?_⟩))
                go_roundg k2
                case measure => have := HJ2.out; have := HK2.out; omega
                case rel => exact ⟨(x7_2), (wrap64 (x22_2 + 1)), (by first | rfl | (simp; done) | (simp [*]; done)), H', ⟨by have := HJ2.out; have := HK2.out; omega⟩, ⟨by (with_reducible repeat (first | apply Kd.R_alloc | apply Kd.R_drewN | apply Kd.R_drew)); exact HO_5.out⟩, ⟨by (with_reducible repeat (first | apply Kd.R_alloc | apply Kd.R_drewN | apply Kd.R_drew)); exact HO_6.out⟩, ⟨by (with_reducible repeat (first | apply Kd.R_alloc | apply Kd.R_drewN | apply Kd.R_drew)); exact HO_7.out⟩, ⟨hb_ HB.out⟩⟩
            · rw [if_neg c17] at H
              have c17b0 : decide (x22_2 < 16) = false := decide_eq_false c17
              clear c17
              obtain rfl := Option.some.inj H
              go_wp2
              go_ret
              exact ⟨_, er_, by (with_reducible repeat (first | apply Kd.R_alloc | apply Kd.R_drewN | apply Kd.R_drew)); exact Kd.R_mono HO_7.out (fun _ hk => trivial), hb_ HB.out⟩
end Go.Proofs.Ytknckcakcknbbaa.P

namespace Go.Proofs.Ytknckcakcknbbaa.C
open Go.RowKit Go.Proofs.Ytknckcakcknbbaa.P Go.Proofs.Ytknckcakcknbbaa.G Go.Proofs.YtknckcakcknbbaaW.PrintWords
def hasI (xs : List Int) (v : Int) : Bool := found (fun i => xs[i]? == some v) (fun _ => true) false (List.range xs.length)
theorem sHas (xs : List Int) (hx : xs.length ≤ 2000000) (v : Int) (k : Nat) (hk : xs.length < k) : spec_l16Has.f k xs v = some (hasI xs v) := by
  unfold spec_l16Has.f hasI
  refine find_loop0 (n := xs.length) (c := 0) (L := fun k i => spec_l16Has.l0 k xs v i) (fun k i hi _ => ?_) (fun k => ?_) k (by omega)
  · simp only [spec_l16Has.l0]
    rw [if_pos (by omega), if_pos (by omega), rdI xs i hi, wrap_succ hi (by omega), List.getElem?_eq_getElem hi]
    by_cases h : xs[i] = v <;> simp [h]
  · simp only [spec_l16Has.l0]
    rw [if_neg (by omega)]
theorem iHas (xs : List Int) (hx : xs.length ≤ 2000000) (v : Int) (k : Nat) (hk : xs.length < k) : slices_Contains_int.f k xs v = some (hasI xs v) := by
  unfold slices_Contains_int.f slices_Index_int.f
  have := find_loop0 (n := xs.length) (c := 0) (L := fun k i => slices_Index_int.l0 k xs v (xs.length : Int) i) (Q := fun i => xs[i]? == some v) (r := fun i => (i : Int)) (e := -1) (fun k i hi _ => ?_) (fun k => ?_) k (by omega)
  · rw [this, Option.bind_some]
    unfold hasI found
    split <;> simp
  · simp only [slices_Index_int.l0]
    rw [if_pos (by omega), if_pos (by omega), if_pos (by omega), rdI xs i hi, wrap_succ hi (by omega), List.getElem?_eq_getElem hi]
    by_cases h : xs[i] = v
    · subst h; simp
    · rw [if_neg (fun e => h e.symm), if_neg (by simp [h])]
  · simp only [slices_Index_int.l0]
    rw [if_neg (by omega)]
def slots (l : List H) : List Int := l.map fun x => x.f0
theorem slots_len (l : List H) : (slots l).length = l.length := by simp [slots]
theorem sSlots (l : List H) (hl : l.length ≤ 2000000) (k : Nat) (hk : l.length < k) : spec_l16Slots.f k l = some (slots l) := by
  unfold spec_l16Slots.f
  have := track_loop0 (n := l.length) (c := 0) (L := fun k s i => spec_l16Slots.l0 k l s i) (F := fun i => (l.take i).map fun x => x.f0) (r := slots l) (fun k i hi _ => ?_) (fun k _ => ?_) k (by omega)
  · exact this
  · simp only [spec_l16Slots.l0]
    rw [if_pos (by omega), if_pos (by omega), if_pos (by simp; omega), rdH l i hi, wrap_succ hi (by omega), List.take_succ_eq_append_getElem hi, List.map_append]
    rfl
  · simp only [spec_l16Slots.l0]
    rw [if_neg (by omega)]; simp [slots]
theorem iSlots (l : List H) (hl : l.length ≤ 2000000) (k : Nat) (hk : l.length < k) : impl_slotsOf.f k l = some (slots l) := by
  unfold impl_slotsOf.f
  have := track_loop0 (n := l.length) (c := 0) (L := fun k s i => impl_slotsOf.l0 k s l (l.length : Int) i) (F := fun i => (l.take i).map fun x => x.f0) (r := slots l) (fun k i hi _ => ?_) (fun k _ => ?_) k (by omega)
  · exact this
  · simp only [impl_slotsOf.l0]
    rw [if_pos (by omega), if_pos (by omega), if_pos (by omega), if_pos (by simp; omega), rdH l i hi, wrap_succ hi (by omega), List.take_succ_eq_append_getElem hi, List.map_append]
    rfl
  · simp only [impl_slotsOf.l0]
    rw [if_neg (by omega)]; simp [slots]
def unF (a b : List Int) : Nat → List Int
  | 0 => []
  | i + 1 => if (hasI a i != hasI b i) = true then unF a b i ++ [(i : Int)] else unF a b i
theorem unF_len (a b : List Int) : ∀ i, (unF a b i).length ≤ i := by
  intro i
  induction i with
  | zero => simp [unF]
  | succ i ih => rw [unF]; split <;> (try simp) <;> omega
def unlike (l m : List H) : List Int := if (heardOk l && heardOk m) = true then unF (slots l) (slots m) 16 else []
theorem unlike_len (l m : List H) : (unlike l m).length ≤ 16 := by
  unfold unlike; split
  · exact unF_len _ _ 16
  · simp
theorem sUnlike (l m : List H) (hl : l.length ≤ 1048576) (hm : m.length ≤ 1048576) (k : Nat) (hk : 1050000 ≤ k) : spec_HeardUnlike.f k l m = some (unlike l m) := by
  obtain ⟨k, rfl⟩ : ∃ j, k = j + 1 := ⟨k - 1, by omega⟩
  have hj : spec_HeardUnlike.j0 (k + 1) l m [] true = some [] := by simp [spec_HeardUnlike.j0]
  unfold spec_HeardUnlike.f unlike
  rw [Option.bind_some, sHeardOk l hl _ (by omega), sHeardOk m hm _ (by omega), Option.bind_some, Option.bind_some]
  cases heardOk l with
  | false => rw [if_neg (by decide), hj]; rfl
  | true =>
    cases heardOk m with
    | false => rw [if_pos rfl, Bool.not_false, hj]; rfl
    | true =>
      rw [if_pos rfl, Bool.not_true]
      simp only [spec_HeardUnlike.j0]
      rw [if_neg (by decide), sSlots l (by omega) k (by omega), sSlots m (by omega) k (by omega), Option.bind_some, Option.bind_some, if_pos (by decide)]
      have e1 := slots_len l; have e2 := slots_len m
      refine track_loop0 (n := 16) (c := 1048600) (L := fun k s i => spec_HeardUnlike.l0 k s (slots l) (slots m) i) (F := fun i => unF (slots l) (slots m) i) (fun k i hi _ => ?_) (fun k _ => ?_) k (by omega)
      · simp only [spec_HeardUnlike.l0]
        have hn := unF_len (slots l) (slots m) i
        rw [if_pos (by omega), sHas _ (by omega) _ _ (by omega), sHas _ (by omega) _ _ (by omega), Option.bind_some, Option.bind_some, wrap_succ hi (by omega), unF]
        split
        · rw [if_pos (by omega)]
        · rfl
      · simp only [spec_HeardUnlike.l0]
        rw [if_neg (by omega)]
theorem iUnlike (l m : List H) (hl : l.length ≤ 1048576) (hm : m.length ≤ 1048576) (k : Nat) (hk : 1050000 ≤ k) : impl_HeardUnlike.f k l m = some (unlike l m) := by
  obtain ⟨k, rfl⟩ : ∃ j, k = j + 1 := ⟨k - 1, by omega⟩
  have hj : impl_HeardUnlike.j0 (k + 1) l m true = some [] := by simp [impl_HeardUnlike.j0]
  unfold impl_HeardUnlike.f unlike
  rw [iHeardOk l hl _ (by omega), iHeardOk m hm _ (by omega), Option.bind_some, Option.bind_some]
  cases heardOk l with
  | false => rw [if_neg (by decide), hj]; rfl
  | true =>
    cases heardOk m with
    | false => rw [if_pos rfl, Bool.not_false, hj]; rfl
    | true =>
      rw [if_pos rfl, Bool.not_true]
      simp only [impl_HeardUnlike.j0]
      rw [if_neg (by decide), iSlots l (by omega) k (by omega), iSlots m (by omega) k (by omega), Option.bind_some, Option.bind_some, if_pos (by decide)]
      have e1 := slots_len l; have e2 := slots_len m
      refine track_loop0 (n := 16) (c := 1048600) (L := fun k s i => impl_HeardUnlike.l0 k (slots l) (slots m) s i) (F := fun i => unF (slots l) (slots m) i) (fun k i hi _ => ?_) (fun k _ => ?_) k (by omega)
      · simp only [impl_HeardUnlike.l0]
        have hn := unF_len (slots l) (slots m) i
        rw [if_pos (by omega), iHas _ (by omega) _ _ (by omega), iHas _ (by omega) _ _ (by omega), Option.bind_some, Option.bind_some, wrap_succ hi (by omega), unF]
        split
        · rw [if_pos (by omega)]
        · rfl
      · simp only [impl_HeardUnlike.l0]
        rw [if_neg (by omega)]
end Go.Proofs.Ytknckcakcknbbaa.C
namespace Go.Proofs.Ytknckcakcknbbaa.C
open Go.RowKit Go.Proofs.Ytknckcakcknbbaa.P Go.Proofs.Ytknckcakcknbbaa.G
abbrev Sl := S89
abbrev SlL := S110
def toSl (x : SlL) : Sl := ⟨x.f0, x.f1⟩
theorem rdSl (l : List Sl) (i : Nat) (h : i < l.length) : rd_T89 l (i : Int) = l[i] := by
  unfold rd_T89; simp [List.getD, h]
theorem rdSlL (l : List SlL) (i : Nat) (h : i < l.length) : rd_T110 l (i : Int) = l[i] := by
  unfold rd_T110; simp [List.getD, h]
theorem toSlotS (l : List SlL) (hl : l.length ≤ 1048576) (k : Nat) (hk : l.length < k) : laws_toSlotS.f k l = some (l.map toSl) := by
  unfold laws_toSlotS.f
  rw [if_pos (by omega), if_pos (by simp; omega)]
  simp only [Int.toNat_natCast]
  refine to_loop0 (L := fun k acc i => laws_toSlotS.l0 k l acc i) (fun k acc i hi ha => ?_) (fun k acc ha => ?_) k hk
  · simp only [laws_toSlotS.l0, laws_toSlot.f, Option.bind_some]
    rw [if_pos (by omega), if_pos (by omega), if_pos (by omega), wrap_succ hi (by omega), rdSlL l i hi]
    rfl
  · simp only [laws_toSlotS.l0]
    rw [if_neg (by omega)]
theorem toPlan (a b : Int) (l : List SlL) (hl : l.length ≤ 1048576) (k : Nat) (hk : l.length < k) : laws_toPlan.f k a b l = some (a, b, l.map toSl) := by
  unfold laws_toPlan.f; rw [toSlotS l hl k hk]; rfl
theorem eqSlotS (l : List Sl) (hl : l.length ≤ 1048576) (k : Nat) (hk : l.length < k) : laws_eqSlotS.f k l l = some true := by
  unfold laws_eqSlotS.f
  rw [if_pos rfl]
  refine all_loopT (n := l.length) (L := fun k i => laws_eqSlotS.l0 k l l i) (fun k i hi => ?_) (fun k => ?_) k hk
  · simp only [laws_eqSlotS.l0, laws_eqSlot.f]
    rw [if_pos (by omega), if_pos (by omega), if_pos (by omega), wrap_succ hi (by omega)]
    simp
  · simp only [laws_eqSlotS.l0]
    rw [if_neg (by omega)]
theorem eqPlan (a b : Int) (l : List Sl) (hl : l.length ≤ 1048576) (k : Nat) (hk : l.length < k) : laws_eqPlan.f k a b l a b l = some true := by
  unfold laws_eqPlan.f; rw [eqSlotS l hl k hk]; simp
theorem szPlan (a b : Int) (l : List SlL) (hl : l.length ≤ 9223372036854775807) (x : Int) (hx : 0 ≤ x ∧ x ≤ 1048576) :
    (laws_szPlan.f a b l x = some (-1)) ∨ (laws_szPlan.f a b l x = some (x - l.length) ∧ (l.length : Int) ≤ x) := by
  unfold laws_szPlan.f laws_szSlotS.f
  have hw : wrap64 (x - (l.length : Int)) = x - l.length := wrap_id (by omega) (by omega)
  rw [hw]
  by_cases h : x - (l.length : Int) < 0
  · left; rw [if_pos h]; simp
  · right; rw [if_neg h]; simp only [Option.bind_some]; rw [if_neg h]; exact ⟨rfl, by omega⟩
def slotOk (x : Sl) : Bool := decide (0 ≤ x.f0 ∧ x.f0 ≤ 7) && decide (1 ≤ x.f1 ∧ x.f1 ≤ 1000000)
def slotsOk (l : List Sl) : Bool := (List.range l.length).all fun i => match l[i]? with | some x => slotOk x | none => true
def planOk (st gap : Int) (l : List Sl) : Bool := decide (0 ≤ st ∧ st ≤ 1000000000000) && decide (0 ≤ gap ∧ gap ≤ 100000) && decide ((1 : Int) ≤ l.length ∧ (l.length : Int) ≤ 12) && slotsOk l
theorem slotsOk_get {l : List Sl} (h : slotsOk l = true) (i : Nat) (hi : i < l.length) : 0 ≤ l[i].f0 ∧ l[i].f0 ≤ 7 ∧ 1 ≤ l[i].f1 ∧ l[i].f1 ≤ 1000000 := by
  unfold slotsOk at h; rw [all_iff] at h
  have := h i hi
  rw [List.getElem?_eq_getElem hi] at this
  simp [slotOk] at this; omega
theorem planOk_iff (st gap : Int) (l : List Sl) : planOk st gap l = true ↔ (0 ≤ st ∧ st ≤ 1000000000000) ∧ (0 ≤ gap ∧ gap ≤ 100000) ∧ (1 ≤ l.length ∧ l.length ≤ 12) ∧ slotsOk l = true := by
  unfold planOk; simp only [Bool.and_eq_true, decide_eq_true_eq]; constructor
  · rintro ⟨⟨⟨h1, h2⟩, h3⟩, h4⟩; exact ⟨h1, h2, by omega, h4⟩
  · rintro ⟨h1, h2, h3, h4⟩; exact ⟨⟨⟨h1, h2⟩, by omega⟩, h4⟩
theorem iIndexSlot (l : List Sl) (hl : l.length ≤ 1048576) (k : Nat) (hk : l.length < k) : ∃ r, slices_IndexFunc_Slot.f k l = some r ∧ decide (r ≥ 0) = !slotsOk l := by
  have h1 : ∀ x : Sl, impl_PlanOk_1.f x.f0 x.f1 = some (!slotOk x) := by
    intro x; unfold impl_PlanOk_1.f slotOk; simp only [isNode, in_, Option.bind_some]
    cases decide (0 ≤ x.f0 ∧ x.f0 ≤ 7) <;> simp
  unfold slices_IndexFunc_Slot.f
  have := find_loop0 (n := l.length) (L := fun k i => slices_IndexFunc_Slot.l0 k l (l.length : Int) i) (Q := fun i => match l[i]? with | some x => !slotOk x | none => false) (r := fun i => (i : Int)) (e := -1) (c := 0) (fun k i hi _ => ?_) (fun k => ?_) k (by omega)
  · refine ⟨_, this, ?_⟩
    rcases first_of (Q := fun i => match l[i]? with | some x => !slotOk x | none => false) l.length with ⟨j, h2, h3, h4⟩ | h2
    · rw [found_some h2 h3 h4]
      have : slotsOk l = false := by
        cases hs : slotsOk l with
        | false => rfl
        | true =>
          unfold slotsOk at hs; rw [all_iff] at hs
          have := hs j h2
          rw [List.getElem?_eq_getElem h2] at this h3
          simp at this h3; rw [this] at h3; cases h3
      rw [this]; simp
    · rw [found_none h2]
      have : slotsOk l = true := by
        unfold slotsOk; rw [all_iff]; intro i hi
        have := h2 i hi
        rw [List.getElem?_eq_getElem hi] at this ⊢
        simpa using this
      rw [this]; simp
  · simp only [slices_IndexFunc_Slot.l0]
    rw [if_pos (by omega), if_pos (by omega), if_pos (by omega), wrap_succ hi (by omega), rdSl l i hi, h1, List.getElem?_eq_getElem hi]
    rfl
  · simp only [slices_IndexFunc_Slot.l0]
    rw [if_neg (by omega)]
theorem iPlanOk (st gap : Int) (l : List Sl) (hl : l.length ≤ 1048576) (k : Nat) (hk : l.length < k) : impl_PlanOk.f k st gap l = some (planOk st gap l) := by
  obtain ⟨r, h1, h2⟩ := iIndexSlot l hl k hk
  unfold impl_PlanOk.f planOk slices_ContainsFunc_Slot.f; simp only [isTime, in_, h1, h2, Option.bind_some]
  cases decide (0 ≤ st ∧ st ≤ 1000000000000) <;> cases decide (0 ≤ gap ∧ gap ≤ 100000) <;> cases decide ((1 : Int) ≤ l.length ∧ (l.length : Int) ≤ 12) <;> simp
theorem sPlanOk (st gap : Int) (l : List Sl) (hl : l.length ≤ 1048576) (k : Nat) (hk : l.length + 1 < k) : spec_PlanOk.f k st gap l = some (planOk st gap l) := by
  obtain ⟨k, rfl⟩ : ∃ j, k = j + 1 := ⟨k - 1, by omega⟩
  have hL : spec_PlanOk.l0 k 0 st gap l = some (slotsOk l) := by
    unfold slotsOk
    have := all_loop0 (n := l.length) (L := fun k i => spec_PlanOk.l0 k i st gap l) (Q := fun i => match l[i]? with | some x => slotOk x | none => true) (e := true) (fun k i hi => ?_) (fun k => ?_) k (by omega)
    · simpa using this
    · simp only [spec_PlanOk.l0, l4Node, l1In, Option.bind_some]
      rw [if_pos (by omega), if_pos (by omega), wrap_succ hi (by omega), rdSl l i hi, List.getElem?_eq_getElem hi]
      simp only [slotOk]
      by_cases h1 : (0 ≤ l[i].f0 ∧ l[i].f0 ≤ 7) <;> by_cases h2 : (1 ≤ l[i].f1 ∧ l[i].f1 ≤ 1000000) <;> simp [h1, h2]
    · simp only [spec_PlanOk.l0]
      rw [if_neg (by omega)]
  unfold spec_PlanOk.f planOk; simp only [l2Time, l1In, Option.bind_some, spec_PlanOk.j0, hL]
  cases decide (0 ≤ st ∧ st ≤ 1000000000000) <;> cases decide (0 ≤ gap ∧ gap ≤ 100000) <;> cases decide ((1 : Int) ≤ l.length ∧ (l.length : Int) ≤ 12) <;> simp
end Go.Proofs.Ytknckcakcknbbaa.C
namespace Go.Proofs.Ytknckcakcknbbaa.P
open Go.RowKit Go.Proofs.YtknckcakcknbbaaW.PrintWords Go.Proofs.YtknckcakcknbbaaW.PrintLast Go.Proofs.YtknckcakcknbbaaW.PrintMore
attribute [local go_sem] max2_int min2_int max_two min_two max_three min_three max_four min_four
set_option linter.unusedVariables false
set_option linter.unusedSimpArgs false
def spec_IvalOk.f (a0_0 : Int) (a0_1 : Int) : Option (Bool) := if a0_0 ≤ a0_1 then ((spec_l1In.f a0_0 (-1000000000000) 1000000000000).bind fun t515 => (if t515 = true then ((spec_l1In.f a0_1 (-1000000000000) 1000000000000).bind fun t516 => (some t516)) else (some false))) else (some false)
set_option maxHeartbeats 8000000 in
set_option maxRecDepth 100000 in
theorem spec_IvalOk.calls (a0_0 : Int) (a0_1 : Int) (r : Bool) (w : World) (h : spec_IvalOk.f a0_0 a0_1 = some r) :
    Calls Try.prog 94 #[.agg #[.int .i64 a0_0, .int .i64 a0_1]] w fun e w' => e = .returned (.bool r) ∧ Below w.heap.size w w' := by
  have hu56 := Try.underlying56
  have HB := Aside0.mk (Below.refl w.heap.size w)
  have H : (if a0_0 ≤ a0_1 then ((spec_l1In.f a0_0 (-1000000000000) 1000000000000).bind fun t515 => (if t515 = true then ((spec_l1In.f a0_1 (-1000000000000) 1000000000000).bind fun t516 => (some t516)) else (some false))) else (some false)) = some r := h
  clear h
  by_cases c2 : a0_0 ≤ a0_1
  · rw [if_pos c2] at H
    have c2b0 : decide (a0_0 ≤ a0_1) = true := decide_eq_true c2
    clear c2
    replace H := Option.bind_eq_some_iff.mp H
    obtain ⟨t515, A30, H⟩ := H
    replace H : (if t515 = true then ((spec_l1In.f a0_1 (-1000000000000) 1000000000000).bind fun t516 => (some t516)) else (some false)) = some r := H
    have A3 := Aside0.mk A30
    clear A30
    by_cases c4 : t515 = true
    · subst c4
      have H1 : ((spec_l1In.f a0_1 (-1000000000000) 1000000000000).bind fun t516 => (some t516)) = some r := by rw [if_pos rfl] at H; exact H
      clear H
      have H := H1
      clear H1
      replace H := Option.bind_eq_some_iff.mp H
      obtain ⟨t516, A50, H⟩ := H
      replace H : (some t516) = some r := H
      have A5 := Aside0.mk A50
      clear A50
      obtain rfl := Option.some.inj H
      go_enter Try.func94, Try.ntmps94
      go_wp2_with (first | ((with_reducible refine gate_dst (N := 1) rfl ?_); refine box_event ?hg (N := 1) ?hd (cs := #[.int .i64 a0_0, .int .i64 a0_1]) (t := 56) ?hr ?_; (case hd => rfl); (case hg => rfl); (case hr => first | (go_simp; done) | (go_simp; rfl)); intro gb514 hg w6 hbox hb; have n0_ := Aside0.mk (below_step (hb_ HB.out) hb); have n1_ := Aside0.mk (hbox); have n2_ := Aside0.mk ((by rw [hg]; exact (below_size (hb_ HB.out)) : w.heap.size ≤ gb514)); have n3_ := Aside0.mk ((by rw [hg]; exact (below_size (hb_ HB.out)) : w.heap.size ≤ gb514)); clear HB; have HB := n0_; have BK514 := n1_; have GW514 := n2_; have GE514 := n3_; clear n0_ n1_ n2_ n3_; clear hb hbox hg; have hcz7_0 := bc_ BK514.out 0 (.int .i64 a0_0) rfl; have hcz7_1 := bc_ BK514.out 1 (.int .i64 a0_1) rfl; have hfz7_0 := blk_frozen BK514.out 0; have hfz7_1 := blk_frozen BK514.out 1) | (go_at_call 79; (with_reducible refine (spec_l1In.calls a0_0 (-1000000000000) 1000000000000 true _ A3.out).mono ?_); rintro e w' ⟨rfl, ⟨nd, rfl⟩⟩) | (go_at_call 79; (with_reducible refine (spec_l1In.calls a0_1 (-1000000000000) 1000000000000 t516 _ A5.out).mono ?_); rintro e w' ⟨rfl, ⟨nd, rfl⟩⟩))
      go_ret
      exact ⟨er_, hb1_ HB.out GE514.out⟩
    · replace c4 := Bool.eq_false_iff.mpr c4
      subst c4
      have H1 : (some false) = some r := by rw [if_neg (show ¬ (false = true) by decide)] at H; exact H
      clear H
      have H := H1
      clear H1
      obtain rfl := Option.some.inj H
      go_enter Try.func94, Try.ntmps94
      go_wp2_with (first | ((with_reducible refine gate_dst (N := 1) rfl ?_); refine box_event ?hg (N := 1) ?hd (cs := #[.int .i64 a0_0, .int .i64 a0_1]) (t := 56) ?hr ?_; (case hd => rfl); (case hg => rfl); (case hr => first | (go_simp; done) | (go_simp; rfl)); intro gb514 hg w8 hbox hb; have n0_ := Aside0.mk (below_step (hb_ HB.out) hb); have n1_ := Aside0.mk (hbox); have n2_ := Aside0.mk ((by rw [hg]; exact (below_size (hb_ HB.out)) : w.heap.size ≤ gb514)); have n3_ := Aside0.mk ((by rw [hg]; exact (below_size (hb_ HB.out)) : w.heap.size ≤ gb514)); clear HB; have HB := n0_; have BK514 := n1_; have GW514 := n2_; have GE514 := n3_; clear n0_ n1_ n2_ n3_; clear hb hbox hg; have hcz9_0 := bc_ BK514.out 0 (.int .i64 a0_0) rfl; have hcz9_1 := bc_ BK514.out 1 (.int .i64 a0_1) rfl; have hfz9_0 := blk_frozen BK514.out 0; have hfz9_1 := blk_frozen BK514.out 1) | (go_at_call 79; (with_reducible refine (spec_l1In.calls a0_0 (-1000000000000) 1000000000000 false _ A3.out).mono ?_); rintro e w' ⟨rfl, ⟨nd, rfl⟩⟩))
      go_ret
      exact ⟨er_, hb1_ HB.out GE514.out⟩
  · rw [if_neg c2] at H
    have c2b0 : decide (a0_0 ≤ a0_1) = false := decide_eq_false c2
    clear c2
    obtain rfl := Option.some.inj H
    go_enter Try.func94, Try.ntmps94
    go_wp2_with (first | ((with_reducible refine gate_dst (N := 1) rfl ?_); refine box_event ?hg (N := 1) ?hd (cs := #[.int .i64 a0_0, .int .i64 a0_1]) (t := 56) ?hr ?_; (case hd => rfl); (case hg => rfl); (case hr => first | (go_simp; done) | (go_simp; rfl)); intro gb514 hg w10 hbox hb; have n0_ := Aside0.mk (below_step (hb_ HB.out) hb); have n1_ := Aside0.mk (hbox); have n2_ := Aside0.mk ((by rw [hg]; exact (below_size (hb_ HB.out)) : w.heap.size ≤ gb514)); have n3_ := Aside0.mk ((by rw [hg]; exact (below_size (hb_ HB.out)) : w.heap.size ≤ gb514)); clear HB; have HB := n0_; have BK514 := n1_; have GW514 := n2_; have GE514 := n3_; clear n0_ n1_ n2_ n3_; clear hb hbox hg; have hcz11_0 := bc_ BK514.out 0 (.int .i64 a0_0) rfl; have hcz11_1 := bc_ BK514.out 1 (.int .i64 a0_1) rfl; have hfz11_0 := blk_frozen BK514.out 0; have hfz11_1 := blk_frozen BK514.out 1))
    go_ret
    exact ⟨er_, hb1_ HB.out GE514.out⟩
def impl_IvalOk.f (a0_0 : Int) (a0_1 : Int) : Option (Bool) := if (-1000000000000) ≤ a0_0 then (if a0_0 ≤ a0_1 then (some (decide (a0_1 ≤ 1000000000000))) else (some false)) else (some false)
set_option maxHeartbeats 8000000 in
set_option maxRecDepth 100000 in
theorem impl_IvalOk.calls (a0_0 : Int) (a0_1 : Int) (r : Bool) (w : World) (h : impl_IvalOk.f a0_0 a0_1 = some r) :
    Calls Try.prog 98 #[.agg #[.int .i64 a0_0, .int .i64 a0_1]] w fun e w' => e = .returned (.bool r) ∧ Below w.heap.size w w' := by
  have hu56 := Try.underlying56
  have HB := Aside0.mk (Below.refl w.heap.size w)
  have H : (if (-1000000000000) ≤ a0_0 then (if a0_0 ≤ a0_1 then (some (decide (a0_1 ≤ 1000000000000))) else (some false)) else (some false)) = some r := h
  clear h
  by_cases c2 : (-1000000000000) ≤ a0_0
  · rw [if_pos c2] at H
    have c2b0 : decide ((-1000000000000) ≤ a0_0) = true := decide_eq_true c2
    clear c2
    by_cases c3 : a0_0 ≤ a0_1
    · rw [if_pos c3] at H
      have c3b0 : decide (a0_0 ≤ a0_1) = true := decide_eq_true c3
      clear c3
      obtain rfl := Option.some.inj H
      go_enter Try.func98, Try.ntmps98
      go_wp2_with (first | ((with_reducible refine gate_dst (N := 1) rfl ?_); refine box_event ?hg (N := 1) ?hd (cs := #[.int .i64 a0_0, .int .i64 a0_1]) (t := 56) ?hr ?_; (case hd => rfl); (case hg => rfl); (case hr => first | (go_simp; done) | (go_simp; rfl)); intro gb562 hg w4 hbox hb; have n0_ := Aside0.mk (below_step (hb_ HB.out) hb); have n1_ := Aside0.mk (hbox); have n2_ := Aside0.mk ((by rw [hg]; exact (below_size (hb_ HB.out)) : w.heap.size ≤ gb562)); have n3_ := Aside0.mk ((by rw [hg]; exact (below_size (hb_ HB.out)) : w.heap.size ≤ gb562)); clear HB; have HB := n0_; have BK562 := n1_; have GW562 := n2_; have GE562 := n3_; clear n0_ n1_ n2_ n3_; clear hb hbox hg; have hcz5_0 := bc_ BK562.out 0 (.int .i64 a0_0) rfl; have hcz5_1 := bc_ BK562.out 1 (.int .i64 a0_1) rfl; have hfz5_0 := blk_frozen BK562.out 0; have hfz5_1 := blk_frozen BK562.out 1))
      go_ret
      exact ⟨er_, hb1_ HB.out GE562.out⟩
    · rw [if_neg c3] at H
      have c3b0 : decide (a0_0 ≤ a0_1) = false := decide_eq_false c3
      clear c3
      obtain rfl := Option.some.inj H
      go_enter Try.func98, Try.ntmps98
      go_wp2_with (first | ((with_reducible refine gate_dst (N := 1) rfl ?_); refine box_event ?hg (N := 1) ?hd (cs := #[.int .i64 a0_0, .int .i64 a0_1]) (t := 56) ?hr ?_; (case hd => rfl); (case hg => rfl); (case hr => first | (go_simp; done) | (go_simp; rfl)); intro gb562 hg w6 hbox hb; have n0_ := Aside0.mk (below_step (hb_ HB.out) hb); have n1_ := Aside0.mk (hbox); have n2_ := Aside0.mk ((by rw [hg]; exact (below_size (hb_ HB.out)) : w.heap.size ≤ gb562)); have n3_ := Aside0.mk ((by rw [hg]; exact (below_size (hb_ HB.out)) : w.heap.size ≤ gb562)); clear HB; have HB := n0_; have BK562 := n1_; have GW562 := n2_; have GE562 := n3_; clear n0_ n1_ n2_ n3_; clear hb hbox hg; have hcz7_0 := bc_ BK562.out 0 (.int .i64 a0_0) rfl; have hcz7_1 := bc_ BK562.out 1 (.int .i64 a0_1) rfl; have hfz7_0 := blk_frozen BK562.out 0; have hfz7_1 := blk_frozen BK562.out 1))
      go_ret
      exact ⟨er_, hb1_ HB.out GE562.out⟩
  · rw [if_neg c2] at H
    have c2b0 : decide ((-1000000000000) ≤ a0_0) = false := decide_eq_false c2
    clear c2
    obtain rfl := Option.some.inj H
    go_enter Try.func98, Try.ntmps98
    go_wp2_with (first | ((with_reducible refine gate_dst (N := 1) rfl ?_); refine box_event ?hg (N := 1) ?hd (cs := #[.int .i64 a0_0, .int .i64 a0_1]) (t := 56) ?hr ?_; (case hd => rfl); (case hg => rfl); (case hr => first | (go_simp; done) | (go_simp; rfl)); intro gb562 hg w8 hbox hb; have n0_ := Aside0.mk (below_step (hb_ HB.out) hb); have n1_ := Aside0.mk (hbox); have n2_ := Aside0.mk ((by rw [hg]; exact (below_size (hb_ HB.out)) : w.heap.size ≤ gb562)); have n3_ := Aside0.mk ((by rw [hg]; exact (below_size (hb_ HB.out)) : w.heap.size ≤ gb562)); clear HB; have HB := n0_; have BK562 := n1_; have GW562 := n2_; have GE562 := n3_; clear n0_ n1_ n2_ n3_; clear hb hbox hg; have hcz9_0 := bc_ BK562.out 0 (.int .i64 a0_0) rfl; have hcz9_1 := bc_ BK562.out 1 (.int .i64 a0_1) rfl; have hfz9_0 := blk_frozen BK562.out 0; have hfz9_1 := blk_frozen BK562.out 1))
    go_ret
    exact ⟨er_, hb1_ HB.out GE562.out⟩
end Go.Proofs.Ytknckcakcknbbaa.P
namespace Go.Proofs.Ytknckcakcknbbaa.C
open Go.RowKit Go.Proofs.Ytknckcakcknbbaa.P Go.Proofs.Ytknckcakcknbbaa.G
def ivalOk (a b : Int) : Bool := decide (-1000000000000 ≤ a) && decide (a ≤ b) && decide (b ≤ 1000000000000)
theorem ivalOk_iff (a b : Int) : ivalOk a b = true ↔ -1000000000000 ≤ a ∧ a ≤ b ∧ b ≤ 1000000000000 := by unfold ivalOk; simp; omega
theorem sIvalOk (a b : Int) : spec_IvalOk.f a b = some (ivalOk a b) := by
  have e : ivalOk a b = decide (-1000000000000 ≤ a ∧ a ≤ b ∧ b ≤ 1000000000000) := by
    rw [Bool.eq_iff_iff, ivalOk_iff, decide_eq_true_iff]
  rw [e]
  unfold spec_IvalOk.f; simp only [l1In, Option.bind_some]
  by_cases h1 : a ≤ b
  · rw [if_pos h1]
    by_cases h2 : (-1000000000000 ≤ a ∧ a ≤ 1000000000000)
    · rw [decide_eq_true h2, if_pos rfl]; congr 1; rw [decide_eq_decide]; omega
    · rw [decide_eq_false h2, if_neg (by decide)]; congr 1; symm; apply decide_eq_false; omega
  · rw [if_neg h1]; congr 1; symm; apply decide_eq_false; omega
theorem iIvalOk (a b : Int) : impl_IvalOk.f a b = some (ivalOk a b) := by
  unfold impl_IvalOk.f ivalOk
  by_cases h1 : a ≤ b <;> by_cases h2 : -1000000000000 ≤ a <;> by_cases h3 : b ≤ 1000000000000 <;> simp [h1, h2, h3]
def ivalT (a b : Int) : Int × Int × Bool := if ivalOk a b = true then (a, b, true) else (0, 0, false)
end Go.Proofs.Ytknckcakcknbbaa.C
namespace Go.Proofs.Ytknckcakcknbbaa.P
open Go.RowKit Go.Proofs.YtknckcakcknbbaaW.PrintWords Go.Proofs.YtknckcakcknbbaaW.PrintLast Go.Proofs.YtknckcakcknbbaaW.PrintMore
attribute [local go_sem] max2_int min2_int max_two min_two max_three min_three max_four min_four
set_option linter.unusedVariables false
set_option linter.unusedSimpArgs false
def impl_RoundOf.f (k : Nat) (a0_0 : Int) (a0_1 : Int) (l0_2 : List (S89)) : Option (Int) := (impl_PlanOk.f k a0_0 a0_1 l0_2).bind fun t1170 => (if t1170 = true then ((impl_Plan_round.f k a0_0 a0_1 l0_2).bind fun t1171 => (some t1171)) else (some 0))
theorem impl_RoundOf.mono : ∀ a0 a1 a2 k, LeO (impl_RoundOf.f k a0 a1 a2) (impl_RoundOf.f (k + 1) a0 a1 a2) := by
  intro a0 a1 a2 k
  unfold impl_RoundOf.f
  repeat' first
      | (with_reducible exact impl_PlanOk.mono _ _ _ _)
      | (with_reducible exact impl_Plan_round.mono _ _ _ _)
      | (with_reducible exact LeO.refl _)
      | (with_reducible exact LeO.none _)
      | (with_reducible refine LeO.ite ?_ ?_)
      | (with_reducible refine LeO.bind ?_ (fun _ => ?_))
      | exact impl_PlanOk.mono _ _ _ _
      | exact impl_Plan_round.mono _ _ _ _
      | exact LeO.none _
      | refine LeO.ite ?_ ?_
      | refine LeO.bind ?_ (fun _ => ?_)
set_option maxHeartbeats 8000000 in
set_option maxRecDepth 100000 in
theorem impl_RoundOf.calls (k : Nat) (a0_0 : Int) (a0_1 : Int) (A0_2 : Option Addr) (c0_2 : Nat) (l0_2 : List (S89)) (r : Int) (w : World) (hr0_2 : Kd.C k89 w A0_2 l0_2.length l0_2) (hc0_2 : l0_2.length ≤ c0_2) (h : impl_RoundOf.f k a0_0 a0_1 l0_2 = some r) :
    Calls Try.prog 39 #[.agg #[.int .i64 a0_0, .int .i64 a0_1, .slice A0_2 l0_2.length c0_2]] w fun e w' => e = .returned (.int .i64 r) ∧ Below w.heap.size w w' := by
  have hu42 := Try.underlying42
  have HR0_2 := Aside0.mk hr0_2
  have HC0_2 := Aside0.mk hc0_2
  clear hr0_2 hc0_2
  have HB := Aside0.mk (Below.refl w.heap.size w)
  have H : ((impl_PlanOk.f k a0_0 a0_1 l0_2).bind fun t1170 => (if t1170 = true then ((impl_Plan_round.f k a0_0 a0_1 l0_2).bind fun t1171 => (some t1171)) else (some 0))) = some r := h
  clear h
  replace H := Option.bind_eq_some_iff.mp H
  obtain ⟨t1170, A20, H⟩ := H
  replace H : (if t1170 = true then ((impl_Plan_round.f k a0_0 a0_1 l0_2).bind fun t1171 => (some t1171)) else (some 0)) = some r := H
  have A2 := Aside0.mk A20
  clear A20
  by_cases c3 : t1170 = true
  · subst c3
    have H1 : ((impl_Plan_round.f k a0_0 a0_1 l0_2).bind fun t1171 => (some t1171)) = some r := by rw [if_pos rfl] at H; exact H
    clear H
    have H := H1
    clear H1
    replace H := Option.bind_eq_some_iff.mp H
    obtain ⟨t1171, A40, H⟩ := H
    replace H : (some t1171) = some r := H
    have A4 := Aside0.mk A40
    clear A40
    obtain rfl := Option.some.inj H
    go_enter Try.func39, Try.ntmps39
    go_wp2_with (first | ((with_reducible refine gate_dst (N := 1) rfl ?_); refine box_event ?hg (N := 1) ?hd (cs := #[.int .i64 a0_0, .int .i64 a0_1, .slice A0_2 l0_2.length c0_2]) (t := 42) ?hr ?_; (case hd => rfl); (case hg => rfl); (case hr => first | (go_simp; done) | (go_simp; rfl)); intro gb1169 hg w5 hbox hb; have n0_ := Aside0.mk (below_step (hb_ HB.out) hb); have n1_ := Aside0.mk (hbox); have n2_ := Aside0.mk ((by rw [hg]; exact (below_size (hb_ HB.out)) : w.heap.size ≤ gb1169)); have n3_ := Aside0.mk ((by rw [hg]; exact (below_size (hb_ HB.out)) : w.heap.size ≤ gb1169)); clear HB; have HB := n0_; have BK1169 := n1_; have GW1169 := n2_; have GE1169 := n3_; clear n0_ n1_ n2_ n3_; clear hb hbox hg; have hcz6_0 := bc_ BK1169.out 0 (.int .i64 a0_0) rfl; have hcz6_1 := bc_ BK1169.out 1 (.int .i64 a0_1) rfl; have hcz6_2 := bc_ BK1169.out 2 (.slice A0_2 l0_2.length c0_2) rfl; have hfz6_0 := blk_frozen BK1169.out 0; have hfz6_1 := blk_frozen BK1169.out 1; have hfz6_2 := blk_frozen BK1169.out 2) | ((with_reducible refine gate_callee (f := 62) rfl ?_); refine goesL_ (some 4) rfl rfl Try.func62 (by kernel_rfl) rfl #[.agg #[.int .i64 a0_0, .int .i64 a0_1, .slice A0_2 l0_2.length c0_2]] rfl arr_ ?_; (with_reducible refine (impl_PlanOk.calls k a0_0 a0_1 _ _ l0_2 true _ ?side1 ?side2 A2.out).mono ?_); (case side1 => exact kc_ (Kd.C_below HR0_2.out HB.out)); (case side2 => exact HC0_2.out); rintro e w7 ⟨rfl, hb⟩; refine ⟨_, rfl, ?_⟩; have n0_ := Aside0.mk (bb_ BK1169.out hb); have n1_ := Aside0.mk (below_step (hb1_ HB.out GE1169.out) hb); clear BK1169; clear HB; have BK1169 := n0_; have HB := n1_; clear n0_ n1_; (try clear hb); (try clear hb2); (try clear hk); (try clear hi); have hcz8_0 := bc_ BK1169.out 0 (.int .i64 a0_0) rfl; have hcz8_1 := bc_ BK1169.out 1 (.int .i64 a0_1) rfl; have hcz8_2 := bc_ BK1169.out 2 (.slice A0_2 l0_2.length c0_2) rfl; have hfz8_0 := blk_frozen BK1169.out 0; have hfz8_1 := blk_frozen BK1169.out 1; have hfz8_2 := blk_frozen BK1169.out 2) | ((with_reducible refine gate_callee (f := 55) rfl ?_); refine goesL_ (some 7) rfl rfl Try.func55 (by kernel_rfl) rfl #[.agg #[.int .i64 a0_0, .int .i64 a0_1, .slice A0_2 l0_2.length c0_2]] rfl arr_ ?_; (with_reducible refine (impl_Plan_round.calls k a0_0 a0_1 _ _ l0_2 t1171 _ ?side1 ?side2 A4.out).mono ?_); (case side1 => exact kc_ (Kd.C_below HR0_2.out HB.out)); (case side2 => exact HC0_2.out); rintro e w9 ⟨rfl, hb⟩; refine ⟨_, rfl, ?_⟩; have n0_ := Aside0.mk (bb_ BK1169.out hb); have n1_ := Aside0.mk (below_step (hb1_ HB.out GE1169.out) hb); clear BK1169; clear HB; have BK1169 := n0_; have HB := n1_; clear n0_ n1_; (try clear hb); (try clear hb2); (try clear hk); (try clear hi)))
    go_ret
    exact ⟨er_, hb1_ HB.out GE1169.out⟩
  · replace c3 := Bool.eq_false_iff.mpr c3
    subst c3
    have H1 : (some 0) = some r := by rw [if_neg (show ¬ (false = true) by decide)] at H; exact H
    clear H
    have H := H1
    clear H1
    obtain rfl := Option.some.inj H
    go_enter Try.func39, Try.ntmps39
    go_wp2_with (first | ((with_reducible refine gate_dst (N := 1) rfl ?_); refine box_event ?hg (N := 1) ?hd (cs := #[.int .i64 a0_0, .int .i64 a0_1, .slice A0_2 l0_2.length c0_2]) (t := 42) ?hr ?_; (case hd => rfl); (case hg => rfl); (case hr => first | (go_simp; done) | (go_simp; rfl)); intro gb1169 hg w10 hbox hb; have n0_ := Aside0.mk (below_step (hb_ HB.out) hb); have n1_ := Aside0.mk (hbox); have n2_ := Aside0.mk ((by rw [hg]; exact (below_size (hb_ HB.out)) : w.heap.size ≤ gb1169)); have n3_ := Aside0.mk ((by rw [hg]; exact (below_size (hb_ HB.out)) : w.heap.size ≤ gb1169)); clear HB; have HB := n0_; have BK1169 := n1_; have GW1169 := n2_; have GE1169 := n3_; clear n0_ n1_ n2_ n3_; clear hb hbox hg; have hcz11_0 := bc_ BK1169.out 0 (.int .i64 a0_0) rfl; have hcz11_1 := bc_ BK1169.out 1 (.int .i64 a0_1) rfl; have hcz11_2 := bc_ BK1169.out 2 (.slice A0_2 l0_2.length c0_2) rfl; have hfz11_0 := blk_frozen BK1169.out 0; have hfz11_1 := blk_frozen BK1169.out 1; have hfz11_2 := blk_frozen BK1169.out 2) | ((with_reducible refine gate_callee (f := 62) rfl ?_); refine goesL_ (some 4) rfl rfl Try.func62 (by kernel_rfl) rfl #[.agg #[.int .i64 a0_0, .int .i64 a0_1, .slice A0_2 l0_2.length c0_2]] rfl arr_ ?_; (with_reducible refine (impl_PlanOk.calls k a0_0 a0_1 _ _ l0_2 false _ ?side1 ?side2 A2.out).mono ?_); (case side1 => exact kc_ (Kd.C_below HR0_2.out HB.out)); (case side2 => exact HC0_2.out); rintro e w12 ⟨rfl, hb⟩; refine ⟨_, rfl, ?_⟩; have n0_ := Aside0.mk (bb_ BK1169.out hb); have n1_ := Aside0.mk (below_step (hb1_ HB.out GE1169.out) hb); clear BK1169; clear HB; have BK1169 := n0_; have HB := n1_; clear n0_ n1_; (try clear hb); (try clear hb2); (try clear hk); (try clear hi)))
    go_ret
    exact ⟨er_, hb1_ HB.out GE1169.out⟩
end Go.Proofs.Ytknckcakcknbbaa.P
namespace Go.Proofs.Ytknckcakcknbbaa.C
open Go.RowKit Go.Proofs.Ytknckcakcknbbaa.P Go.Proofs.Ytknckcakcknbbaa.G
def uptoL (gap : Int) : List Sl → Int
  | [] => 0
  | x :: xs => x.f1 + gap + uptoL gap xs
theorem uptoL_append (gap : Int) (a b : List Sl) : uptoL gap (a ++ b) = uptoL gap a + uptoL gap b := by
  induction a with
  | nil => simp [uptoL]
  | cons x xs ih => simp only [List.cons_append, uptoL, ih]; omega
def upto (gap : Int) (l : List Sl) (n : Nat) : Int := uptoL gap (l.take n)
theorem upto_zero (gap : Int) (l : List Sl) : upto gap l 0 = 0 := rfl
theorem upto_succ (gap : Int) (l : List Sl) (i : Nat) (h : i < l.length) : upto gap l (i + 1) = upto gap l i + (l[i].f1 + gap) := by
  unfold upto; rw [List.take_succ_eq_append_getElem h, uptoL_append]; simp [uptoL]
def round (gap : Int) (l : List Sl) : Int := upto gap l l.length
theorem upto_bd {st gap : Int} {l : List Sl} (h : planOk st gap l = true) : ∀ n, n ≤ l.length → (n : Int) ≤ upto gap l n ∧ upto gap l n ≤ 1100000 * n := by
  rw [planOk_iff] at h
  intro n
  induction n with
  | zero => intro _; rw [upto_zero]; omega
  | succ n ih =>
    intro hn
    have h1 := ih (by omega)
    have h2 := slotsOk_get h.2.2.2 n (by omega)
    rw [upto_succ gap l n (by omega)]
    omega
theorem round_bd {st gap : Int} {l : List Sl} (h : planOk st gap l = true) : 1 ≤ round gap l ∧ round gap l ≤ 13200000 := by
  have h1 := upto_bd h l.length (Nat.le_refl _)
  rw [planOk_iff] at h
  unfold round; omega
theorem upto_mono {st gap : Int} {l : List Sl} (h : planOk st gap l = true) (i : Nat) : ∀ j, (hj : i < j) → (hl : j ≤ l.length) → upto gap l i + (l[i]'(by omega)).f1 + gap ≤ upto gap l j := by
  have h' := h
  rw [planOk_iff] at h'
  intro j
  induction j with
  | zero => intro hj; omega
  | succ j ih =>
    intro hj hl
    rw [upto_succ gap l j (by omega)]
    have h2 := slotsOk_get h'.2.2.2 j (by omega)
    rcases Nat.lt_or_ge i j with c | c
    · have := ih c (by omega); omega
    · obtain rfl : i = j := by omega
      omega
theorem iFrom {st gap : Int} {l : List Sl} (h : planOk st gap l = true) (n : Nat) (hn : n ≤ l.length) (k : Nat) (hk : 20 ≤ k) : impl_Plan_from.f k st gap l (n : Int) = some (upto gap l n) := by
  have h' := h
  rw [planOk_iff] at h'
  unfold impl_Plan_from.f
  rw [if_pos (by omega), if_pos (by omega)]
  simp only [Option.bind_some, Int.toNat_natCast]
  have hy : (l.take n).length = n := by simp; omega
  rw [hy]
  refine track_loop0 (n := n) (c := 0) (L := fun k s i => impl_Plan_from.l0 k s (l.take n) (n : Int) i st gap l) (F := fun i => upto gap l i) (fun k i hi _ => ?_) (fun k _ => ?_) k (by omega)
  · simp only [impl_Plan_from.l0]
    have hb := upto_bd h i (by omega)
    have hs := slotsOk_get h'.2.2.2 i (by omega)
    rw [if_pos (by omega), if_pos (by omega), if_pos (by omega), wrap_succ hi (by omega), rdSl (l.take n) i (by omega), List.getElem_take, upto_succ gap l i (by omega), wrap_id (x := l[i].f1 + gap) (by omega) (by omega), wrap_id (by omega) (by omega)]
  · simp only [impl_Plan_from.l0]
    rw [if_neg (by omega)]
theorem iRound {st gap : Int} {l : List Sl} (h : planOk st gap l = true) (k : Nat) (hk : 20 ≤ k) : impl_Plan_round.f k st gap l = some (round gap l) := by
  unfold impl_Plan_round.f; rw [iFrom h l.length (Nat.le_refl _) k hk]; rfl
theorem sUpto {st gap : Int} {l : List Sl} (h : planOk st gap l = true) (n : Nat) (hn : n ≤ l.length) (k : Nat) (hk : 20 ≤ k) : spec_l13Upto.f k st gap l (n : Int) = some (upto gap l n) := by
  have h' := h
  rw [planOk_iff] at h'
  unfold spec_l13Upto.f
  refine track_loop0 (n := n) (c := 0) (L := fun k s i => spec_l13Upto.l0 k (n : Int) s i st gap l) (F := fun i => upto gap l i) (fun k i hi _ => ?_) (fun k _ => ?_) k (by omega)
  · simp only [spec_l13Upto.l0]
    have hb := upto_bd h i (by omega)
    have hs := slotsOk_get h'.2.2.2 i (by omega)
    rw [if_pos (by omega), if_pos (by omega), if_pos (by omega), wrap_succ hi (by omega), rdSl l i (by omega), upto_succ gap l i (by omega), wrap_id (x := upto gap l i + l[i].f1) (by omega) (by omega), wrap_id (by omega) (by omega)]
    congr 1; omega
  · simp only [spec_l13Upto.l0]
    rw [if_neg (by omega)]
def roundOf (st gap : Int) (l : List Sl) : Int := if planOk st gap l = true then round gap l else 0
theorem sRoundOf (st gap : Int) (l : List Sl) (hl : l.length ≤ 1048576) (k : Nat) (hk : 1050000 ≤ k) : spec_RoundOf.f k st gap l = some (roundOf st gap l) := by
  unfold spec_RoundOf.f roundOf; rw [sPlanOk st gap l hl k (by omega)]
  simp only [Option.bind_some]
  cases h : planOk st gap l with
  | false => rfl
  | true => rw [if_pos rfl, sUpto h l.length (Nat.le_refl _) k (by omega)]; rfl
theorem sRoundOf' {st gap : Int} {l : List Sl} (h : planOk st gap l = true) (k : Nat) (hk : 20 ≤ k) : spec_RoundOf.f k st gap l = some (round gap l) := by
  have h' := h
  rw [planOk_iff] at h'
  unfold spec_RoundOf.f; rw [sPlanOk st gap l (by omega) k (by omega), h]
  simp only [Option.bind_some]
  rw [if_pos trivial, sUpto h l.length (Nat.le_refl _) k (by omega)]; rfl
theorem iRoundOf (st gap : Int) (l : List Sl) (hl : l.length ≤ 1048576) (k : Nat) (hk : 1050000 ≤ k) : impl_RoundOf.f k st gap l = some (roundOf st gap l) := by
  unfold impl_RoundOf.f roundOf; rw [iPlanOk st gap l hl k (by omega)]
  simp only [Option.bind_some]
  cases h : planOk st gap l with
  | false => rfl
  | true => rw [if_pos rfl, iRound h k (by omega)]; rfl
def driftOk (n d : Int) : Bool := decide (1 ≤ d ∧ d ≤ 1000000) && decide (0 ≤ n ∧ n ≤ d) && decide (2 * n ≤ d)
theorem driftOk_iff (n d : Int) : driftOk n d = true ↔ 1 ≤ d ∧ d ≤ 1000000 ∧ 0 ≤ n ∧ 2 * n ≤ d := by
  unfold driftOk; simp; omega
theorem sDriftOk (n d : Int) : spec_DriftOk.f n d = some (driftOk n d) := by
  unfold spec_DriftOk.f driftOk; simp only [l1In, Option.bind_some]
  by_cases h1 : (1 ≤ d ∧ d ≤ 1000000)
  · by_cases h2 : (0 ≤ n ∧ n ≤ d)
    · rw [wrap_id (by omega) (by omega)]; simp [h1, h2]
    · simp [h1, h2]
  · simp [h1]
theorem iDriftOk (n d : Int) : impl_DriftOk.f n d = some (driftOk n d) := by
  unfold impl_DriftOk.f driftOk; simp only [in_, Option.bind_some]
  by_cases h1 : (1 ≤ d ∧ d ≤ 1000000)
  · by_cases h2 : (0 ≤ n ∧ n ≤ d)
    · rw [wrap_id (by omega) (by omega)]; simp [h1, h2]
    · simp [h1, h2]
  · simp [h1]
theorem mul_bd {x d : Int} (hx : 0 ≤ x ∧ x ≤ 1000000000000) (hd : 0 ≤ d ∧ d ≤ 1000000) : 0 ≤ x * d ∧ x * d ≤ 1000000000000000000 := by
  refine ⟨Int.mul_nonneg hx.1 hd.1, ?_⟩
  calc x * d ≤ 1000000000000 * d := Int.mul_le_mul_of_nonneg_right hx.2 hd.1
    _ ≤ 1000000000000 * 1000000 := Int.mul_le_mul_of_nonneg_left hd.2 (by omega)
theorem ediv_bd {a b : Int} (ha : 0 ≤ a) (hb : 1 ≤ b) : 0 ≤ a / b ∧ a / b ≤ a :=
  ⟨Int.ediv_nonneg ha (by omega), Int.ediv_le_self _ ha⟩
theorem down_eq {a b : Int} (hb : 1 ≤ b) : (if Int.tmod a b < 0 then Int.tdiv a b - 1 else Int.tdiv a b) = a / b := by
  have h1 := Int.mul_tdiv_add_tmod a b
  have h2 := Int.mul_ediv_add_emod a b
  have h3 := Int.emod_nonneg a (by omega : b ≠ 0)
  have h4 := Int.emod_lt_of_pos a (by omega : 0 < b)
  have h5 := Int.tmod_lt_of_pos a (by omega : 0 < b)
  rcases Int.lt_or_le a 0 with h | h
  · have h6 : -b < Int.tmod a b := by
      have := Int.tmod_lt_of_pos (-a) (by omega : 0 < b); rw [Int.neg_tmod] at this; omega
    split
    · have e : b * (Int.tdiv a b - 1) + (Int.tmod a b + b) = b * (a / b) + a % b := by rw [Int.mul_sub, Int.mul_one]; omega
      have : b * (Int.tdiv a b - 1 - a / b) = a % b - (Int.tmod a b + b) := by rw [Int.mul_sub]; omega
      rcases Int.lt_trichotomy (Int.tdiv a b - 1 - a / b) 0 with c | c | c
      · have : b * (Int.tdiv a b - 1 - a / b) ≤ b * (-1) := Int.mul_le_mul_of_nonneg_left (by omega) (by omega); omega
      · omega
      · have : b * 1 ≤ b * (Int.tdiv a b - 1 - a / b) := Int.mul_le_mul_of_nonneg_left (by omega) (by omega); omega
    · rename_i h7
      have : b * (Int.tdiv a b - a / b) = a % b - Int.tmod a b := by rw [Int.mul_sub]; omega
      rcases Int.lt_trichotomy (Int.tdiv a b - a / b) 0 with c | c | c
      · have : b * (Int.tdiv a b - a / b) ≤ b * (-1) := Int.mul_le_mul_of_nonneg_left (by omega) (by omega); omega
      · omega
      · have : b * 1 ≤ b * (Int.tdiv a b - a / b) := Int.mul_le_mul_of_nonneg_left (by omega) (by omega); omega
  · rw [if_neg (by have := Int.tmod_nonneg b h; omega), Int.tdiv_eq_ediv_of_nonneg h]
theorem iDown {a b : Int} (hb : 1 ≤ b) (ha : -1000000000000000000 ≤ a ∧ a ≤ 1000000000000000000) : impl_down.f a b = some (a / b) := by
  have hd := down_eq (a := a) hb
  have hq : -1000000000000000000 ≤ a / b ∧ a / b ≤ 1000000000000000000 := by
    rcases Int.lt_or_le a 0 with h | h
    · have h2 := Int.mul_ediv_add_emod a b
      have h3 := Int.emod_nonneg a (by omega : b ≠ 0)
      have h4 : a / b < 0 := Int.ediv_neg_of_neg_of_pos h (by omega)
      have h5 : a ≤ a / b := by
        have e : b * (a / b) ≤ 1 * (a / b) := by
          have := Int.mul_le_mul_of_nonpos_right hb (by omega : a / b ≤ 0); exact this
        have h6 := Int.emod_lt_of_pos a (by omega : 0 < b)
        rcases Int.lt_or_le (a / b) a with c | c
        · have : b * (a / b) ≤ b * (a - 1) := Int.mul_le_mul_of_nonneg_left (by omega) (by omega)
          have : b * (a - 1) = b * a - b := by rw [Int.mul_sub, Int.mul_one]
          have : b * a ≤ 1 * a := Int.mul_le_mul_of_nonpos_right hb (by omega)
          omega
        · exact c
      omega
    · have := ediv_bd h hb; omega
  unfold impl_down.f
  rw [if_neg (by omega)]
  by_cases h : Int.tmod a b < 0
  · rw [if_pos h] at hd ⊢
    rw [wrap_id (x := Int.tdiv a b) (by omega) (by omega), hd, wrap_id (by omega) (by omega)]
  · rw [if_neg h] at hd ⊢
    rw [hd, wrap_id (by omega) (by omega)]
theorem sDown {a b : Int} (hb : 1 ≤ b) (ha : -1000000000000000000 ≤ a ∧ a ≤ 1000000000000000000) : spec_l1Down.f a b = some (a / b) := iDown hb ha
def mostTime (n d x : Int) : Int × Bool := if (driftOk n d && timeOk x) = true then (if x * d / (d - n) ≤ 1000000000000 then (x * d / (d - n), true) else (0, false)) else (0, false)
def leastTime (n d x : Int) : Int × Bool := if (driftOk n d && timeOk x) = true then (if -(-(x * d) / (d + n)) ≤ 1000000000000 then (-(-(x * d) / (d + n)), true) else (0, false)) else (0, false)
theorem told (x : Int) : spec_l2Told.f x = some (if x ≤ 1000000000000 then (x, true) else (0, false)) := by
  unfold spec_l2Told.f; by_cases h : x > 1000000000000
  · rw [if_pos h, if_neg (by omega)]
  · rw [if_neg h, if_pos (by omega)]
theorem up_bd {x n d : Int} (h : driftOk n d = true) (hx : timeOk x = true) : -(1000000000000000000 : Int) ≤ -(-(x * d) / (d + n)) ∧ -(-(x * d) / (d + n)) ≤ 1000000000000000000 := by
  rw [driftOk_iff] at h; rw [timeOk_iff] at hx
  have hm := mul_bd hx (d := d) (by omega)
  have h2 := Int.mul_ediv_add_emod (-(x * d)) (d + n)
  have h3 := Int.emod_nonneg (-(x * d)) (by omega : d + n ≠ 0)
  have h4 := Int.emod_lt_of_pos (-(x * d)) (by omega : 0 < d + n)
  have h5 : -(x * d) / (d + n) ≤ 0 := by
    rcases Int.lt_or_le 0 (-(x * d) / (d + n)) with c | c
    · have : (d + n) * 1 ≤ (d + n) * (-(x * d) / (d + n)) := Int.mul_le_mul_of_nonneg_left (by omega) (by omega); omega
    · exact c
  have h6 : -(x * d) ≤ -(x * d) / (d + n) := by
    rcases Int.lt_or_le (-(x * d) / (d + n)) (-(x * d)) with c | c
    · have e1 : (d + n) * (-(x * d) / (d + n)) ≤ (d + n) * (-(x * d) - 1) := Int.mul_le_mul_of_nonneg_left (by omega) (by omega)
      have e2 : (d + n) * (-(x * d) - 1) = (d + n) * (-(x * d)) - (d + n) := by rw [Int.mul_sub, Int.mul_one]
      have e3 : (d + n) * (-(x * d)) ≤ 1 * (-(x * d)) := Int.mul_le_mul_of_nonpos_right (by omega) (by omega)
      omega
    · exact c
  omega
theorem iBounded (n d x y : Int) : impl_bounded.f n d x y = some (if (driftOk n d && timeOk x) = true then (if y ≤ 1000000000000 then (y, true) else (0, false)) else (0, false)) := by
  unfold impl_bounded.f; simp only [iDriftOk, isTime, Option.bind_some]
  change (if driftOk n d = true then (if timeOk x = true then _ else _) else _) = _
  cases h1 : driftOk n d <;> cases h2 : timeOk x <;> simp
  split <;> rfl
theorem sLeastTime (k : Nat) (n d x : Int) (hk : 1 ≤ k) : spec_LeastTime.f k n d x = some (leastTime n d x) := by
  obtain ⟨k, rfl⟩ : ∃ j, k = j + 1 := ⟨k - 1, by omega⟩
  unfold spec_LeastTime.f leastTime; simp only [sDriftOk, l2Time, Option.bind_some, spec_LeastTime.j0]
  change (if driftOk n d = true then (if (!timeOk x) = true then _ else _) else _) = _
  cases h1 : driftOk n d with
  | false => simp
  | true =>
    cases h2 : timeOk x with
    | false => simp
    | true =>
      have hu := up_bd h1 h2
      rw [driftOk_iff] at h1; rw [timeOk_iff] at h2
      have hm := mul_bd h2 (d := d) (by omega)
      simp only [Bool.not_true, Bool.false_eq_true, if_false, if_true, Bool.and_true]
      unfold spec_l1Up.f
      rw [wrap_id (x := x * d) (by omega) (by omega), wrap_id (x := d + n) (by omega) (by omega), wrap_id (x := -(x * d)) (by omega) (by omega), sDown (by omega) (by omega)]
      simp only [Option.bind_some]
      rw [wrap_id (by omega) (by omega)]
      simp only [told, Option.bind_some]
theorem iLeastTime (n d x : Int) (hx : -9223372036854775808 ≤ x ∧ x ≤ 9223372036854775807) : impl_LeastTime.f n d x = some (leastTime n d x) := by
  unfold impl_LeastTime.f leastTime; simp only [iDriftOk, Option.bind_some]
  cases h1 : driftOk n d with
  | false => simp [iBounded, h1]
  | true =>
    have h1' := h1
    rw [driftOk_iff] at h1'
    rw [if_pos rfl, wrap_id (x := d + n) (by omega) (by omega)]
    cases h2 : timeOk x with
    | false =>
      unfold impl_up.f impl_down.f
      rw [if_neg (by omega)]
      have : ∃ v, (if (wrap64 (-wrap64 (x * d))).tmod (d + n) < 0 then some (wrap64 (wrap64 ((wrap64 (-wrap64 (x * d))).tdiv (d + n)) - 1)) else some (wrap64 ((wrap64 (-wrap64 (x * d))).tdiv (d + n)))) = some v := by split <;> exact ⟨_, rfl⟩
      obtain ⟨v, hv⟩ := this
      rw [hv]; simp [iBounded, h1, h2]
    | true =>
      have hu := up_bd h1 h2
      have h2' := h2
      rw [timeOk_iff] at h2'
      have hm := mul_bd h2' (d := d) (by omega)
      unfold impl_up.f
      rw [wrap_id (x := x * d) (by omega) (by omega), wrap_id (x := -(x * d)) (by omega) (by omega), iDown (by omega) (by omega)]
      simp only [Option.bind_some]
      rw [wrap_id (by omega) (by omega), iBounded, h1, h2]
end Go.Proofs.Ytknckcakcknbbaa.C
