/- Texts of the seat's proofs, part 1: functions of the program told as plain functions, with their contracts, and what is shown of them. No condition. -/
import Derived.Test.YtllpmpfchidhoaaUKFNO
import Derived.Test.YtllpmpfchidhoaaProg
import Derived.Below
import Derived.Deep.Draws
import Derived.Deep.AppendLies
import Derived.Maps.AppendAt
import Derived.OwnWalk
import Derived.Laws.BytesArg
import Derived.Laws.MakeOwn
import Derived.Laws.OwnMore
import Derived.Deep.OwnRows
import Derived.Tactics
import Derived.Lib.ConvBytes
import Derived.Laws.Slices
import Derived.WalkKit
import Derived.KernelRfl
import Derived.RowKit3
import Derived.Deep.LoopGhost
import Derived.Deep.QuietTactic
import Derived.BigQuiet
import Derived.WideLaws
import Derived.Deep.DeepCutAuto
import Derived.Deep.CutBlock
import Derived.Deep.RegionHeld3
import Derived.Laws.Rows
import Derived.Lib.AppendStr
import Derived.ArgAppend
import Derived.Laws.IdiomCopy
import Derived.OrdersHeld
import Derived.Laws.BitsLemmas
import Derived.RowKit
set_option linter.unusedVariables false
set_option linter.unusedSimpArgs false
namespace Go.Proofs.Ytllpmpfchidhoaa.P
open Go.RowKit Go.Proofs.YtllpmpfchidhoaaW.PrintWords Go.Proofs.YtllpmpfchidhoaaW.PrintLast Go.Proofs.YtllpmpfchidhoaaW.PrintMore
attribute [local go_sem] max2_int min2_int max_two min_two max_three min_three max_four min_four
set_option linter.unusedVariables false
set_option linter.unusedSimpArgs false
def errW : Option Int → Value
 | none => .nilIface
 | some c => .iface 0 (.int .i64 c)
theorem errW_none : errW none = .nilIface := rfl
theorem errW_some (c : Int) : errW (some c) = .iface 0 (.int .i64 c) := rfl
theorem info42 : (Try.prog.info? 42).map (fun i => (i.zero, i.size, i.bytes)) = some (some (.agg #[(.int .i64 0), (.int .i64 0)]), 2, 16) := by kernel_rfl
structure S42 where
 f0 : Int
 f1 : Int
def z42 : S42 := ⟨(0 : Int), (0 : Int)⟩
def k42 : Kd S42 := Kd.iso (Kd.pair (Kd.int .i64) (Kd.int .i64)) (fun x : S42 => (x.f0, x.f1))
theorem k42_open {w : World} {x : S42} {cs : List Value} (h : k42.K w x cs) : cs = [.int .i64 x.f0, .int .i64 x.f1] := by
 obtain ⟨_, _, rfl, rfl, rfl⟩ := h; exact rfl
theorem k42_openM {w : World} {base : Nat} {ok : Nat → Prop} {x : S42} {cs : List Value} (h : k42.M w base ok x cs) : cs = [.int .i64 x.f0, .int .i64 x.f1] := by
 obtain ⟨_, _, rfl, rfl, rfl⟩ := h; exact rfl
theorem k42_mkM (w : World) (base : Nat) (ok : Nat → Prop) (x : S42)  : k42.M w base ok x [.int .i64 x.f0, .int .i64 x.f1] := ⟨[.int .i64 x.f0], [.int .i64 x.f1], rfl, rfl, rfl⟩
def rd_T42 (xs : List S42) (i : Int) : S42 := xs.getD i.toNat z42
theorem at_T42 {w : World} {A : Option Addr} {n : Nat} {xs : List S42} (h : Kd.C k42 w A n xs) (i : Int) (h0 : 0 ≤ i) (h1 : i < n) : ∃ ad , A = some ad ∧ w.cell? (ad.add (i.toNat * 2)) = some (.int .i64 (rd_T42 xs i).f0) ∧ w.cell? ⟨(ad.add (i.toNat * 2)).block, (ad.add (i.toNat * 2)).off + 1, none⟩ = some (.int .i64 (rd_T42 xs i).f1) := by
 obtain ⟨ad, c, e, _, hK, hc0⟩ := Kd.C_get h z42 i h0 h1; have hc : ∀ j u, c[j]? = some u → w.cell? (ad.add (i.toNat * 2 + j)) = some u := hc0; obtain rfl := k42_open hK; exact ⟨ad, e, hc 0 _ rfl, by rw [← add_field _ _ 1 (by omega)]; exact hc 1 _ rfl⟩
structure S27 where
 f0 : Int
 f1 : Int
def laws_big.f (l0 : List Int) : Option (Bool) := some (decide ((l0.length : Int) > 1048576))
set_option maxHeartbeats 8000000 in
set_option maxRecDepth 100000 in
theorem laws_big.calls (A0 : Option Addr) (c0 : Nat) (l0 : List Int) (r : Bool) (w : World) (hr0 : Kd.C (Kd.int .u8) w A0 l0.length l0) (hc0 : l0.length ≤ c0) (h : laws_big.f l0 = some r) :
  Calls Try.prog 8 #[.slice A0 l0.length c0] w fun e w' => e = .returned (.bool r) ∧ Drawn0 w w' := by
 have HR0 := Aside0.mk hr0; have HC0 := Aside0.mk hc0; clear hr0 hc0; have H : (some (decide ((l0.length : Int) > 1048576))) = some r := h; clear h; obtain rfl := Option.some.inj H; go_enter Try.func8, Try.ntmps8
 go_wp2
 go_ret
 exact ⟨by first | rfl | (simp; done) | (simp [*]; done), by repeat (first | exact Drawn0.refl _ | apply Drawn0.step)⟩
def impl_in.f (a0 : Int) (a1 : Int) (a2 : Int) : Option (Bool) := if a1 ≤ a0 then (some (decide (a0 ≤ a2))) else (some false)
set_option maxHeartbeats 8000000 in
set_option maxRecDepth 100000 in
theorem impl_in.calls (a0 : Int) (a1 : Int) (a2 : Int) (r : Bool) (w : World) (h : impl_in.f a0 a1 a2 = some r) :
  Calls Try.prog 48 #[.int .i64 a0, .int .i64 a1, .int .i64 a2] w fun e w' => e = .returned (.bool r) ∧ Drawn0 w w' := by
 have H : (if a1 ≤ a0 then (some (decide (a0 ≤ a2))) else (some false)) = some r := h; clear h; by_cases c4 : a1 ≤ a0
 ·rw [if_pos c4] at H; have c4b0 : decide (a1 ≤ a0) = true := decide_eq_true c4; clear c4; obtain rfl := Option.some.inj H; go_enter Try.func48, Try.ntmps48
  go_wp2
  go_ret
  exact ⟨by first | rfl | (simp; done) | (simp [*]; done), by repeat (first | exact Drawn0.refl _ | apply Drawn0.step)⟩
 ·rw [if_neg c4] at H; have c4b0 : decide (a1 ≤ a0) = false := decide_eq_false c4; clear c4; obtain rfl := Option.some.inj H; go_enter Try.func48, Try.ntmps48
  go_wp2
  go_ret
  exact ⟨by first | rfl | (simp; done) | (simp [*]; done), by repeat (first | exact Drawn0.refl _ | apply Drawn0.step)⟩
def impl_isTime.f (a0 : Int) : Option (Bool) := (impl_in.f a0 0 1000000000000).bind fun t388 => (some t388)
set_option maxHeartbeats 8000000 in
set_option maxRecDepth 100000 in
theorem impl_isTime.calls (a0 : Int) (r : Bool) (w : World) (h : impl_isTime.f a0 = some r) :
  Calls Try.prog 69 #[.int .i64 a0] w fun e w' => e = .returned (.bool r) ∧ Drawn0 w w' := by
 have H : ((impl_in.f a0 0 1000000000000).bind fun t388 => (some t388)) = some r := h; clear h; obtain ⟨t388, A2, H⟩ := ab_ H; obtain rfl := Option.some.inj H; go_enter Try.func69, Try.ntmps69
 go_wp2_with (first | ((with_reducible refine gate_callee (f := 48) rfl ?_); refine gl_ Try.func48 #[.int .i64 a0, .int .i64 0, .int .i64 1000000000000] ?_; (with_reducible refine (impl_in.calls a0 0 1000000000000 t388 _ A2.out).mono ?_); rintro e w' ⟨rfl, ⟨nd, rfl⟩⟩; refine ⟨_, rfl, ?_⟩))
 go_ret
 exact ⟨by first | rfl | (simp; done) | (simp [*]; done), by repeat (first | exact Drawn0.refl _ | apply Drawn0.step)⟩
def impl_isNode.f (a0 : Int) : Option (Bool) := (impl_in.f a0 0 7).bind fun t389 => (some t389)
set_option maxHeartbeats 8000000 in
set_option maxRecDepth 100000 in
theorem impl_isNode.calls (a0 : Int) (r : Bool) (w : World) (h : impl_isNode.f a0 = some r) :
  Calls Try.prog 49 #[.int .i64 a0] w fun e w' => e = .returned (.bool r) ∧ Drawn0 w w' := by
 have H : ((impl_in.f a0 0 7).bind fun t389 => (some t389)) = some r := h; clear h; obtain ⟨t389, A2, H⟩ := ab_ H; obtain rfl := Option.some.inj H; go_enter Try.func49, Try.ntmps49
 go_wp2_with (first | ((with_reducible refine gate_callee (f := 48) rfl ?_); refine gl_ Try.func48 #[.int .i64 a0, .int .i64 0, .int .i64 7] ?_; (with_reducible refine (impl_in.calls a0 0 7 t389 _ A2.out).mono ?_); rintro e w' ⟨rfl, ⟨nd, rfl⟩⟩; refine ⟨_, rfl, ?_⟩))
 go_ret
 exact ⟨by first | rfl | (simp; done) | (simp [*]; done), by repeat (first | exact Drawn0.refl _ | apply Drawn0.step)⟩
def impl_PlanOk_1.f (a0_0 : Int) (a0_1 : Int) : Option (Bool) := (impl_isNode.f a0_0).bind fun t391 => (if t391 = true then ((impl_in.f a0_1 1 1000000).bind fun t392 => (some (!t392))) else (some true))
set_option maxHeartbeats 8000000 in
set_option maxRecDepth 100000 in
theorem impl_PlanOk_1.calls (a0_0 : Int) (a0_1 : Int) (r : Bool) (w : World) (h : impl_PlanOk_1.f a0_0 a0_1 = some r) :
  Calls Try.prog 82 #[.agg #[.int .i64 a0_0, .int .i64 a0_1]] w fun e w' => e = .returned (.bool r) ∧ Below w.heap.size w w' := by
 have hu42 := Try.underlying42; have HB := am_ (Below.refl w.heap.size w); have H : ((impl_isNode.f a0_0).bind fun t391 => (if t391 = true then ((impl_in.f a0_1 1 1000000).bind fun t392 => (some (!t392))) else (some true))) = some r := h; clear h; obtain ⟨t391, A2, H⟩ := ab_ H; by_cases c3 : t391 = true
 ·subst c3; replace H := i1_ H; obtain ⟨t392, A4, H⟩ := ab_ H; obtain rfl := Option.some.inj H; go_enter Try.func82, Try.ntmps82
  go_wp2_with (first | ((with_reducible refine gate_dst (N := 1) rfl ?_); refine be_ (N := 1) (cs := #[.int .i64 a0_0, .int .i64 a0_1]) (t := 42) ?_; intro gb390 hg w5 hbox hb; have BK390 := am_ (hbox); have GW390 := am_ (hy_ hg (hb_ HB.out) : w.heap.size ≤ gb390); have GE390 := GW390; replace HB := am_ (below_step (hb_ HB.out) hb); clear hb hbox hg; obtain ⟨hcz6_0, hcz6_1, hfz6_0, hfz6_1⟩ := bc2_ BK390.out) | ((with_reducible refine gate_callee (f := 49) rfl ?_); refine gl_ Try.func49 #[.int .i64 a0_0] ?_; (with_reducible refine (impl_isNode.calls a0_0 true _ A2.out).mono ?_); rintro e w' ⟨rfl, ⟨nd, rfl⟩⟩; refine ⟨_, rfl, ?_⟩) | (go_at_call 48; (with_reducible refine (impl_in.calls a0_1 1 1000000 t392 _ A4.out).mono ?_); rintro e w' ⟨rfl, ⟨nd, rfl⟩⟩))
  go_ret
  exact ⟨er_, hb1_ HB.out GE390.out⟩
 ·replace c3 := Bool.eq_false_iff.mpr c3; subst c3; replace H := i0_ H; obtain rfl := Option.some.inj H; go_enter Try.func82, Try.ntmps82
  go_wp2_with (first | ((with_reducible refine gate_dst (N := 1) rfl ?_); refine be_ (N := 1) (cs := #[.int .i64 a0_0, .int .i64 a0_1]) (t := 42) ?_; intro gb390 hg w7 hbox hb; have BK390 := am_ (hbox); have GW390 := am_ (hy_ hg (hb_ HB.out) : w.heap.size ≤ gb390); have GE390 := GW390; replace HB := am_ (below_step (hb_ HB.out) hb); clear hb hbox hg; obtain ⟨hcz8_0, hcz8_1, hfz8_0, hfz8_1⟩ := bc2_ BK390.out) | ((with_reducible refine gate_callee (f := 49) rfl ?_); refine gl_ Try.func49 #[.int .i64 a0_0] ?_; (with_reducible refine (impl_isNode.calls a0_0 false _ A2.out).mono ?_); rintro e w' ⟨rfl, ⟨nd, rfl⟩⟩; refine ⟨_, rfl, ?_⟩))
  go_ret
  exact ⟨er_, hb1_ HB.out GE390.out⟩
def slices_IndexFunc_Slot.l0 : Nat → List (S42) → Int → Int → Option (Int)
 | 0, _, _, _ => none
 | k + 1, x0, x7, x8 => if x8 < x7 then (if 0 ≤ x8 then (if x8 < (x0.length : Int) then ((impl_PlanOk_1.f ((rd_T42 x0 x8).f0) ((rd_T42 x0 x8).f1)).bind fun t394 => (if t394 = true then (some x8) else (slices_IndexFunc_Slot.l0 k x0 x7 (wrap64 (x8 + 1))))) else (none)) else (none)) else (some (-1))
def slices_IndexFunc_Slot.f (k : Nat) (l0 : List (S42)) : Option (Int) := slices_IndexFunc_Slot.l0 k l0 (l0.length : Int) 0
set_option maxHeartbeats 8000000 in
set_option maxRecDepth 100000 in
theorem slices_IndexFunc_Slot.calls (k : Nat) (A0 : Option Addr) (c0 : Nat) (l0 : List (S42)) (r : Int) (w : World) (hr0 : Kd.C k42 w A0 l0.length l0) (hc0 : l0.length ≤ c0) (h : slices_IndexFunc_Slot.f k l0 = some r) :
  Calls Try.prog 96 #[.slice A0 l0.length c0, .func (.func 82) #[] #[]] w fun e w' => e = .returned (.int .i64 r) ∧ Below w.heap.size w w' := by
 have hu42 := Try.underlying42; have HR0 := Aside0.mk hr0; have HC0 := Aside0.mk hc0; clear hr0 hc0; have HB := am_ (Below.refl w.heap.size w); have H : (slices_IndexFunc_Slot.l0 k l0 (l0.length : Int) 0) = some r := h; clear h; have H' := Aside0.mk H; clear H; go_enter Try.func96, Try.ntmps96
 go_wp2
 go_loopg [8] k (fun kq v8 w' => ∃ (x8_1 : Int), v8 = .int .i64 x8_1 ∧ Aside0 (slices_IndexFunc_Slot.l0 kq l0 (l0.length : Int) x8_1 = some r) ∧ Aside0 (kq ≤ k) ∧ Aside0 (Below w.heap.size w w'))
 case atStart => exact ⟨(0), (by first | rfl | (simp; done) | (simp [*]; done)), H', ⟨Nat.le_refl _⟩, ⟨hb_ HB.out⟩⟩
 case round =>
  clear H'; obtain ⟨x8_1, rfl, HA, HK1, HB⟩ := hrel
  cases gk with
  | zero => exact absurd HA.out (by simp [slices_IndexFunc_Slot.l0])
  | succ k1 =>
   have H := HA.out; clear HA; simp only [slices_IndexFunc_Slot.l0] at H
   by_cases c2 : x8_1 < (l0.length : Int)
   ·rw [if_pos c2] at H; have c2b0 : decide (x8_1 < (l0.length : Int)) = true := decide_eq_true c2; clear c2; by_cases c3 : 0 ≤ x8_1
    ·rw [if_pos c3] at H; have c3b0 : decide (0 ≤ x8_1) = true := decide_eq_true c3; clear c3; by_cases c4 : x8_1 < (l0.length : Int)
     ·rw [if_pos c4] at H; have c4b0 : decide (x8_1 < (l0.length : Int)) = true := decide_eq_true c4; clear c4; obtain ⟨t394, A5, H⟩ := ab_ H; by_cases c6 : t394 = true
      ·subst c6; replace H := i1_ H; obtain rfl := Option.some.inj H; have p393 : 0 ≤ (x8_1 : Int) := of_decide_eq_true (by first | (with_reducible assumption) | assumption); have q393 : x8_1 < (l0.length : Int) := of_decide_eq_true (by first | (with_reducible assumption) | assumption); obtain ⟨ad393, e393, hx393_0, hx393_1⟩ := at_T42 HR0.out x8_1 p393 q393
       cases e393
       replace hx393_0 := (HB.out.cell (World.block_lt_of_cell? w _ hx393_0)).trans hx393_0; replace hx393_1 := (HB.out.cell (World.block_lt_of_cell? w _ hx393_1)).trans hx393_1; replace p393 := eq_true p393; replace q393 := eq_true q393; go_wp2_with (first | (go_at_call 82; (with_reducible refine (impl_PlanOk_1.calls ((rd_T42 l0 x8_1).f0) ((rd_T42 l0 x8_1).f1) true _ A5.out).mono ?_); rintro e w7 ⟨rfl, hb⟩; replace HB := am_ (below_step (hb_ HB.out) hb); (try clear hb); (try clear hb2); (try clear hk); (try clear hi)))
       go_ret
       exact ⟨er_, hb_ HB.out⟩
      ·replace c6 := Bool.eq_false_iff.mpr c6; subst c6; replace H := i0_ H; have H' := Aside0.mk H; clear H; have p393 : 0 ≤ (x8_1 : Int) := of_decide_eq_true (by first | (with_reducible assumption) | assumption); have q393 : x8_1 < (l0.length : Int) := of_decide_eq_true (by first | (with_reducible assumption) | assumption); obtain ⟨ad393, e393, hx393_0, hx393_1⟩ := at_T42 HR0.out x8_1 p393 q393
       cases e393
       replace hx393_0 := (HB.out.cell (World.block_lt_of_cell? w _ hx393_0)).trans hx393_0; replace hx393_1 := (HB.out.cell (World.block_lt_of_cell? w _ hx393_1)).trans hx393_1; replace p393 := eq_true p393; replace q393 := eq_true q393; go_wp2_with (first | (go_at_call 82; (with_reducible refine (impl_PlanOk_1.calls ((rd_T42 l0 x8_1).f0) ((rd_T42 l0 x8_1).f1) false _ A5.out).mono ?_); rintro e w8 ⟨rfl, hb⟩; replace HB := am_ (below_step (hb_ HB.out) hb); (try clear hb); (try clear hb2); (try clear hk); (try clear hi)))
       go_roundg k1
       case measure => have := HK1.out; omega
       case rel => exact ⟨(wrap64 (x8_1 + 1)), (by first | rfl | (simp; done) | (simp [*]; done)), H', ⟨by have := HK1.out; omega⟩, ⟨hb_ HB.out⟩⟩
     ·rw [if_neg c4] at H; exact absurd H (by simp)
    ·rw [if_neg c3] at H; exact absurd H (by simp)
   ·rw [if_neg c2] at H; have c2b0 : decide (x8_1 < (l0.length : Int)) = false := decide_eq_false c2; clear c2; obtain rfl := Option.some.inj H; go_wp2
    go_ret
    exact ⟨er_, hb_ HB.out⟩
def slices_ContainsFunc_Slot.f (k : Nat) (l0 : List (S42)) : Option (Bool) := (slices_IndexFunc_Slot.f k l0).bind fun t395 => (some (decide (t395 ≥ 0)))
set_option maxHeartbeats 8000000 in
set_option maxRecDepth 100000 in
theorem slices_ContainsFunc_Slot.calls (k : Nat) (A0 : Option Addr) (c0 : Nat) (l0 : List (S42)) (r : Bool) (w : World) (hr0 : Kd.C k42 w A0 l0.length l0) (hc0 : l0.length ≤ c0) (h : slices_ContainsFunc_Slot.f k l0 = some r) :
  Calls Try.prog 81 #[.slice A0 l0.length c0, .func (.func 82) #[] #[]] w fun e w' => e = .returned (.bool r) ∧ Below w.heap.size w w' := by
 have HR0 := Aside0.mk hr0; have HC0 := Aside0.mk hc0; clear hr0 hc0; have HB := am_ (Below.refl w.heap.size w); have H : ((slices_IndexFunc_Slot.f k l0).bind fun t395 => (some (decide (t395 ≥ 0)))) = some r := h; clear h; obtain ⟨t395, A2, H⟩ := ab_ H; obtain rfl := Option.some.inj H; go_enter Try.func81, Try.ntmps81
 go_wp2_with (first | ((with_reducible refine gate_callee (f := 96) rfl ?_); refine gl_ Try.func96 #[.slice A0 l0.length c0, .func (.func 82) #[] #[]] ?_; (with_reducible refine (slices_IndexFunc_Slot.calls k _ _ l0 t395 _ ?side1 ?side2 A2.out).mono ?_); (case side1 => repeat (first | exact HR0.out | (with_reducible refine Kd.C_alloc ?_ _) | (with_reducible refine Kd.C_drewN ?_ _) | (with_reducible refine Kd.C_drew ?_))); (case side2 => exact HC0.out); rintro e w3 ⟨rfl, hb⟩; refine ⟨_, rfl, ?_⟩; replace HB := am_ (below_step (hb_ HB.out) hb); (try clear hb); (try clear hb2); (try clear hk); (try clear hi)))
 go_ret
 exact ⟨er_, hb_ HB.out⟩
def impl_PlanOk.f (k : Nat) (a0_0 : Int) (a0_1 : Int) (l0_2 : List (S42)) : Option (Bool) := (impl_isTime.f a0_0).bind fun t397 => (if t397 = true then ((impl_in.f a0_1 0 100000).bind fun t398 => (if t398 = true then ((impl_in.f (l0_2.length : Int) 1 12).bind fun t399 => (if t399 = true then ((slices_ContainsFunc_Slot.f k l0_2).bind fun t400 => (some (!t400))) else (some false))) else (some false))) else (some false))
set_option maxHeartbeats 8000000 in
set_option maxRecDepth 100000 in
theorem impl_PlanOk.calls (k : Nat) (a0_0 : Int) (a0_1 : Int) (A0_2 : Option Addr) (c0_2 : Nat) (l0_2 : List (S42)) (r : Bool) (w : World) (hr0_2 : Kd.C k42 w A0_2 l0_2.length l0_2) (hc0_2 : l0_2.length ≤ c0_2) (h : impl_PlanOk.f k a0_0 a0_1 l0_2 = some r) :
  Calls Try.prog 34 #[.agg #[.int .i64 a0_0, .int .i64 a0_1, .slice A0_2 l0_2.length c0_2]] w fun e w' => e = .returned (.bool r) ∧ Below w.heap.size w w' := by
 have hu30 := Try.underlying30; have HR0_2 := Aside0.mk hr0_2; have HC0_2 := Aside0.mk hc0_2; clear hr0_2 hc0_2; have HB := am_ (Below.refl w.heap.size w); have H : ((impl_isTime.f a0_0).bind fun t397 => (if t397 = true then ((impl_in.f a0_1 0 100000).bind fun t398 => (if t398 = true then ((impl_in.f (l0_2.length : Int) 1 12).bind fun t399 => (if t399 = true then ((slices_ContainsFunc_Slot.f k l0_2).bind fun t400 => (some (!t400))) else (some false))) else (some false))) else (some false))) = some r := h; clear h; obtain ⟨t397, A2, H⟩ := ab_ H; by_cases c3 : t397 = true
 ·subst c3; replace H := i1_ H; obtain ⟨t398, A4, H⟩ := ab_ H; by_cases c5 : t398 = true
  ·subst c5; replace H := i1_ H; obtain ⟨t399, A6, H⟩ := ab_ H; by_cases c7 : t399 = true
   ·subst c7; replace H := i1_ H; obtain ⟨t400, A8, H⟩ := ab_ H; obtain rfl := Option.some.inj H; go_enter Try.func34, Try.ntmps34
    go_wp2_with (first | ((with_reducible refine gate_dst (N := 1) rfl ?_); (try (refine gate_guard (by rfl) ?_; dsimp only)); refine be_ (N := 1) (cs := #[.int .i64 a0_0, .int .i64 a0_1, .slice A0_2 l0_2.length c0_2]) (t := 30) ?_; intro gb396 hg w9 hbox hb; have BK396 := am_ (hbox); have GW396 := am_ (hy_ hg (hb_ HB.out) : w.heap.size ≤ gb396); have GE396 := GW396; replace HB := am_ (below_step (hb_ HB.out) hb); clear hb hbox hg; obtain ⟨hcz10_0, hcz10_1, hcz10_2, hfz10_0, hfz10_1, hfz10_2⟩ := bc3_ BK396.out) | ((with_reducible refine gate_callee (f := 69) rfl ?_); refine gl_ Try.func69 #[.int .i64 a0_0] ?_; (with_reducible refine (impl_isTime.calls a0_0 true _ A2.out).mono ?_); rintro e w' ⟨rfl, ⟨nd, rfl⟩⟩; refine ⟨_, rfl, ?_⟩) | (go_at_call 48; (with_reducible refine (impl_in.calls a0_1 0 100000 true _ A4.out).mono ?_); rintro e w' ⟨rfl, ⟨nd, rfl⟩⟩) | (go_at_call 48; (with_reducible refine (impl_in.calls (l0_2.length : Int) 1 12 true _ A6.out).mono ?_); rintro e w' ⟨rfl, ⟨nd, rfl⟩⟩) | (go_at_call 81; (with_reducible refine (slices_ContainsFunc_Slot.calls k _ _ l0_2 t400 _ ?side1 ?side2 A8.out).mono ?_); (case side1 => repeat (first | exact (Kd.C_below HR0_2.out (hb1_ HB.out GE396.out)) | (with_reducible refine Kd.C_alloc ?_ _) | (with_reducible refine Kd.C_drewN ?_ _) | (with_reducible refine Kd.C_drew ?_))); (case side2 => exact HC0_2.out); rintro e w11 ⟨rfl, hb⟩; replace BK396 := am_ (bb_ BK396.out hb); replace HB := am_ (below_step (hb1_ HB.out GE396.out) hb); (try clear hb); (try clear hb2); (try clear hk); (try clear hi)))
    go_ret
    exact ⟨er_, hb1_ HB.out GE396.out⟩
   ·replace c7 := Bool.eq_false_iff.mpr c7; subst c7; replace H := i0_ H; obtain rfl := Option.some.inj H; go_enter Try.func34, Try.ntmps34
    go_wp2_with (first | ((with_reducible refine gate_dst (N := 1) rfl ?_); (try (refine gate_guard (by rfl) ?_; dsimp only)); refine be_ (N := 1) (cs := #[.int .i64 a0_0, .int .i64 a0_1, .slice A0_2 l0_2.length c0_2]) (t := 30) ?_; intro gb396 hg w12 hbox hb; have BK396 := am_ (hbox); have GW396 := am_ (hy_ hg (hb_ HB.out) : w.heap.size ≤ gb396); have GE396 := GW396; replace HB := am_ (below_step (hb_ HB.out) hb); clear hb hbox hg; obtain ⟨hcz13_0, hcz13_1, hcz13_2, hfz13_0, hfz13_1, hfz13_2⟩ := bc3_ BK396.out) | ((with_reducible refine gate_callee (f := 69) rfl ?_); refine gl_ Try.func69 #[.int .i64 a0_0] ?_; (with_reducible refine (impl_isTime.calls a0_0 true _ A2.out).mono ?_); rintro e w' ⟨rfl, ⟨nd, rfl⟩⟩; refine ⟨_, rfl, ?_⟩) | (go_at_call 48; (with_reducible refine (impl_in.calls a0_1 0 100000 true _ A4.out).mono ?_); rintro e w' ⟨rfl, ⟨nd, rfl⟩⟩) | (go_at_call 48; (with_reducible refine (impl_in.calls (l0_2.length : Int) 1 12 false _ A6.out).mono ?_); rintro e w' ⟨rfl, ⟨nd, rfl⟩⟩))
    go_ret
    exact ⟨er_, hb1_ HB.out GE396.out⟩
  ·replace c5 := Bool.eq_false_iff.mpr c5; subst c5; replace H := i0_ H; obtain rfl := Option.some.inj H; go_enter Try.func34, Try.ntmps34
   go_wp2_with (first | ((with_reducible refine gate_dst (N := 1) rfl ?_); (try (refine gate_guard (by rfl) ?_; dsimp only)); refine be_ (N := 1) (cs := #[.int .i64 a0_0, .int .i64 a0_1, .slice A0_2 l0_2.length c0_2]) (t := 30) ?_; intro gb396 hg w14 hbox hb; have BK396 := am_ (hbox); have GW396 := am_ (hy_ hg (hb_ HB.out) : w.heap.size ≤ gb396); have GE396 := GW396; replace HB := am_ (below_step (hb_ HB.out) hb); clear hb hbox hg; obtain ⟨hcz15_0, hcz15_1, hcz15_2, hfz15_0, hfz15_1, hfz15_2⟩ := bc3_ BK396.out) | ((with_reducible refine gate_callee (f := 69) rfl ?_); refine gl_ Try.func69 #[.int .i64 a0_0] ?_; (with_reducible refine (impl_isTime.calls a0_0 true _ A2.out).mono ?_); rintro e w' ⟨rfl, ⟨nd, rfl⟩⟩; refine ⟨_, rfl, ?_⟩) | (go_at_call 48; (with_reducible refine (impl_in.calls a0_1 0 100000 false _ A4.out).mono ?_); rintro e w' ⟨rfl, ⟨nd, rfl⟩⟩))
   go_ret
   exact ⟨er_, hb1_ HB.out GE396.out⟩
 ·replace c3 := Bool.eq_false_iff.mpr c3; subst c3; replace H := i0_ H; obtain rfl := Option.some.inj H; go_enter Try.func34, Try.ntmps34
  go_wp2_with (first | ((with_reducible refine gate_dst (N := 1) rfl ?_); (try (refine gate_guard (by rfl) ?_; dsimp only)); refine be_ (N := 1) (cs := #[.int .i64 a0_0, .int .i64 a0_1, .slice A0_2 l0_2.length c0_2]) (t := 30) ?_; intro gb396 hg w16 hbox hb; have BK396 := am_ (hbox); have GW396 := am_ (hy_ hg (hb_ HB.out) : w.heap.size ≤ gb396); have GE396 := GW396; replace HB := am_ (below_step (hb_ HB.out) hb); clear hb hbox hg; obtain ⟨hcz17_0, hcz17_1, hcz17_2, hfz17_0, hfz17_1, hfz17_2⟩ := bc3_ BK396.out) | ((with_reducible refine gate_callee (f := 69) rfl ?_); refine gl_ Try.func69 #[.int .i64 a0_0] ?_; (with_reducible refine (impl_isTime.calls a0_0 false _ A2.out).mono ?_); rintro e w' ⟨rfl, ⟨nd, rfl⟩⟩; refine ⟨_, rfl, ?_⟩))
  go_ret
  exact ⟨er_, hb1_ HB.out GE396.out⟩
def impl_isSlot.f (k : Nat) (a0_0 : Int) (a0_1 : Int) (l0_2 : List (S42)) (a1 : Int) : Option (Bool) := (impl_PlanOk.f k a0_0 a0_1 l0_2).bind fun t425 => (if t425 = true then ((impl_in.f a1 0 (wrap64 ((l0_2.length : Int) - 1))).bind fun t426 => (some t426)) else (some false))
set_option maxHeartbeats 8000000 in
set_option maxRecDepth 100000 in
theorem impl_isSlot.calls (k : Nat) (a0_0 : Int) (a0_1 : Int) (A0_2 : Option Addr) (c0_2 : Nat) (l0_2 : List (S42)) (a1 : Int) (r : Bool) (w : World) (hr0_2 : Kd.C k42 w A0_2 l0_2.length l0_2) (hc0_2 : l0_2.length ≤ c0_2) (h : impl_isSlot.f k a0_0 a0_1 l0_2 a1 = some r) :
  Calls Try.prog 58 #[.agg #[.int .i64 a0_0, .int .i64 a0_1, .slice A0_2 l0_2.length c0_2], .int .i64 a1] w fun e w' => e = .returned (.bool r) ∧ Below w.heap.size w w' := by
 have hu30 := Try.underlying30; have HR0_2 := Aside0.mk hr0_2; have HC0_2 := Aside0.mk hc0_2; clear hr0_2 hc0_2; have HB := am_ (Below.refl w.heap.size w); have H : ((impl_PlanOk.f k a0_0 a0_1 l0_2).bind fun t425 => (if t425 = true then ((impl_in.f a1 0 (wrap64 ((l0_2.length : Int) - 1))).bind fun t426 => (some t426)) else (some false))) = some r := h; clear h; obtain ⟨t425, A3, H⟩ := ab_ H; by_cases c4 : t425 = true
 ·subst c4; replace H := i1_ H; obtain ⟨t426, A5, H⟩ := ab_ H; obtain rfl := Option.some.inj H; go_enter Try.func58, Try.ntmps58
  go_wp2_with (first | ((with_reducible refine gate_dst (N := 2) rfl ?_); (try (refine gate_guard (by rfl) ?_; dsimp only)); refine be_ (N := 2) (cs := #[.int .i64 a0_0, .int .i64 a0_1, .slice A0_2 l0_2.length c0_2]) (t := 30) ?_; intro gb424 hg w6 hbox hb; have BK424 := am_ (hbox); have GW424 := am_ (hy_ hg (hb_ HB.out) : w.heap.size ≤ gb424); have GE424 := GW424; replace HB := am_ (below_step (hb_ HB.out) hb); clear hb hbox hg; obtain ⟨hcz7_0, hcz7_1, hcz7_2, hfz7_0, hfz7_1, hfz7_2⟩ := bc3_ BK424.out) | ((with_reducible refine gate_callee (f := 34) rfl ?_); refine gl_ Try.func34 #[.agg #[.int .i64 a0_0, .int .i64 a0_1, .slice A0_2 l0_2.length c0_2]] ?_; (with_reducible refine (impl_PlanOk.calls k a0_0 a0_1 _ _ l0_2 true _ ?side1 ?side2 A3.out).mono ?_); (case side1 => exact kc_ (Kd.C_below HR0_2.out HB.out)); (case side2 => exact HC0_2.out); rintro e w8 ⟨rfl, hb⟩; refine ⟨_, rfl, ?_⟩; replace BK424 := am_ (bb_ BK424.out hb); replace HB := am_ (below_step (hb1_ HB.out GE424.out) hb); (try clear hb); (try clear hb2); (try clear hk); (try clear hi); obtain ⟨hcz9_0, hcz9_1, hcz9_2, hfz9_0, hfz9_1, hfz9_2⟩ := bc3_ BK424.out) | (go_at_call 48; (with_reducible refine (impl_in.calls a1 0 (wrap64 ((l0_2.length : Int) - 1)) t426 _ A5.out).mono ?_); rintro e w' ⟨rfl, ⟨nd, rfl⟩⟩))
  go_ret
  exact ⟨er_, hb1_ HB.out GE424.out⟩
 ·replace c4 := Bool.eq_false_iff.mpr c4; subst c4; replace H := i0_ H; obtain rfl := Option.some.inj H; go_enter Try.func58, Try.ntmps58
  go_wp2_with (first | ((with_reducible refine gate_dst (N := 2) rfl ?_); (try (refine gate_guard (by rfl) ?_; dsimp only)); refine be_ (N := 2) (cs := #[.int .i64 a0_0, .int .i64 a0_1, .slice A0_2 l0_2.length c0_2]) (t := 30) ?_; intro gb424 hg w10 hbox hb; have BK424 := am_ (hbox); have GW424 := am_ (hy_ hg (hb_ HB.out) : w.heap.size ≤ gb424); have GE424 := GW424; replace HB := am_ (below_step (hb_ HB.out) hb); clear hb hbox hg; obtain ⟨hcz11_0, hcz11_1, hcz11_2, hfz11_0, hfz11_1, hfz11_2⟩ := bc3_ BK424.out) | ((with_reducible refine gate_callee (f := 34) rfl ?_); refine gl_ Try.func34 #[.agg #[.int .i64 a0_0, .int .i64 a0_1, .slice A0_2 l0_2.length c0_2]] ?_; (with_reducible refine (impl_PlanOk.calls k a0_0 a0_1 _ _ l0_2 false _ ?side1 ?side2 A3.out).mono ?_); (case side1 => exact kc_ (Kd.C_below HR0_2.out HB.out)); (case side2 => exact HC0_2.out); rintro e w12 ⟨rfl, hb⟩; refine ⟨_, rfl, ?_⟩; replace BK424 := am_ (bb_ BK424.out hb); replace HB := am_ (below_step (hb1_ HB.out GE424.out) hb); (try clear hb); (try clear hb2); (try clear hk); (try clear hi)))
  go_ret
  exact ⟨er_, hb1_ HB.out GE424.out⟩
def impl_Plan_from.l0 : Nat → Int → List (S42) → Int → Int → Int → Int → List (S42) → Option (Int)
 | 0, _, _, _, _, _, _, _ => none
 | k + 1, x5, x11, x12, x13, x428000, x428001, x428002 => if x13 < x12 then (if 0 ≤ x13 then (if x13 < (x11.length : Int) then (impl_Plan_from.l0 k (wrap64 (x5 + (wrap64 (((rd_T42 x11 x13).f1) + x428001)))) x11 x12 (wrap64 (x13 + 1)) x428000 x428001 x428002) else (none)) else (none)) else (some x5)
def impl_Plan_from.f (k : Nat) (a0_0 : Int) (a0_1 : Int) (l0_2 : List (S42)) (a1 : Int) : Option (Int) := if 0 ≤ a1 then (if a1 ≤ (l0_2.length : Int) then ((some (l0_2.take (a1 : Int).toNat : List (S42))).bind fun y428 => (impl_Plan_from.l0 k 0 y428 (y428.length : Int) 0 a0_0 a0_1 l0_2)) else (none)) else (none)
set_option maxHeartbeats 8000000 in
set_option maxRecDepth 100000 in
theorem impl_Plan_from.calls (k : Nat) (a0_0 : Int) (a0_1 : Int) (A0_2 : Option Addr) (c0_2 : Nat) (l0_2 : List (S42)) (a1 : Int) (r : Int) (w : World) (hr0_2 : Kd.C k42 w A0_2 l0_2.length l0_2) (hc0_2 : l0_2.length ≤ c0_2) (h : impl_Plan_from.f k a0_0 a0_1 l0_2 a1 = some r) :
  Calls Try.prog 60 #[.agg #[.int .i64 a0_0, .int .i64 a0_1, .slice A0_2 l0_2.length c0_2], .int .i64 a1] w fun e w' => e = .returned (.int .i64 r) ∧ Below w.heap.size w w' := by
 have hu30 := Try.underlying30; have hu42 := Try.underlying42; have HR0_2 := Aside0.mk hr0_2; have HC0_2 := Aside0.mk hc0_2; clear hr0_2 hc0_2; have HB := am_ (Below.refl w.heap.size w); have H : (if 0 ≤ a1 then (if a1 ≤ (l0_2.length : Int) then ((some (l0_2.take (a1 : Int).toNat : List (S42))).bind fun y428 => (impl_Plan_from.l0 k 0 y428 (y428.length : Int) 0 a0_0 a0_1 l0_2)) else (none)) else (none)) = some r := h; clear h; by_cases c3 : 0 ≤ a1
 ·rw [if_pos c3] at H; have c3b0 := eq_true c3; have c3b1 : decide (0 ≤ a1) = true := decide_eq_true c3; clear c3; by_cases c4 : a1 ≤ (l0_2.length : Int)
  ·rw [if_pos c4] at H; have c4b0 := eq_true c4; have c4b1 : decide (a1 ≤ (l0_2.length : Int)) = true := decide_eq_true c4; clear c4; obtain ⟨y428, hy428⟩ : ∃ y_ : List (S42), y_ = (l0_2.take (a1 : Int).toNat) := ⟨_, rfl⟩; replace H : (impl_Plan_from.l0 k 0 y428 (y428.length : Int) 0 a0_0 a0_1 l0_2) = some r := by first | (rw [hy428]; with_reducible exact H) | (have H2_ := (Option.bind_some _ _).symm.trans H; rw [hy428]; with_reducible exact H2_) | (have H2_ := (Option.bind_some _ _).symm.trans H; with_reducible exact H2_) | with_reducible exact H | (rw [hy428]; exact H) | exact H
   have Ny428 := Aside0.mk hy428; clear hy428; have H' := Aside0.mk H; clear H; go_enter Try.func60, Try.ntmps60
   go_wp2_with (first | ((with_reducible refine gate_dst (N := 2) rfl ?_); refine be_ (N := 2) (cs := #[.int .i64 a0_0, .int .i64 a0_1, .slice A0_2 l0_2.length c0_2]) (t := 30) ?_; intro gb427 hg w5 hbox hb; have BK427 := am_ (hbox); have GW427 := am_ (hy_ hg (hb_ HB.out) : w.heap.size ≤ gb427); have GE427 := GW427; replace HB := am_ (below_step (hb_ HB.out) hb); clear hb hbox hg; obtain ⟨hcz6_0, hcz6_1, hcz6_2, hfz6_0, hfz6_1, hfz6_2⟩ := bc3_ BK427.out; have q7 : (a1 : Int) ≤ ((l0_2.length : Int) : Int) := of_decide_eq_true (by first | (with_reducible assumption) | assumption); obtain ⟨i07, hi07, _, hsz7, _⟩ := info_parts info42; have hroom7 : l0_2.length ≤ c0_2 := HC0_2.out; have hC7 : Kd.C k42 _ A0_2 l0_2.length l0_2 := HR0_2.out; have hcut7 := cut_to (P := Try.prog) 28 42 .i64 Try.underlying28 hi07 A0_2 l0_2.length c0_2 a1 (of_decide_eq_true (by first | (with_reducible assumption) | assumption)) q7 hroom7; have hr7 := Kd.C_take (m := (a1 : Int).toNat) hC7 (by omega); have hy7 : y428.length = (a1 : Int).toNat := (by rw [Ny428.out, List.length_take]; omega); rw [← Ny428.out] at hr7; rw [← hy7] at hcut7; have HR431 := Aside0.mk hr7; have HC431 := am_ (show y428.length ≤ c0_2 from by omega); clear hr7 hC7 hroom7 hi07 hsz7; have KY7 := Aside0.mk hy7; clear hy7; replace q7 := eq_true q7))
   go_loopg [5, 13] k (fun kq v5 v13 w' => ∃ (x5_1 : Int) (x13_1 : Int), v5 = .int .i64 x5_1 ∧ v13 = .int .i64 x13_1 ∧ Aside0 (impl_Plan_from.l0 kq x5_1 y428 (y428.length : Int) x13_1 a0_0 a0_1 l0_2 = some r) ∧ Aside0 (kq ≤ k) ∧ Aside0 (w'.heap[gb427]? = some (.cells #[.int .i64 a0_0, .int .i64 a0_1, (.slice A0_2 l0_2.length c0_2)] 30 (0, 0))) ∧ Aside0 (Below w.heap.size w w'))
   case atStart => exact ⟨(0), (0), (by first | rfl | (simp; done) | (simp [*]; done)), (by first | rfl | (simp; done) | (simp [*]; done)), H', ⟨Nat.le_refl _⟩, ⟨bk_ BK427.out⟩, ⟨hb1_ HB.out GE427.out⟩⟩
   case round =>
    clear H'; (try clear c3); (try clear c3b0); (try clear c3b1); (try clear c4); (try clear c4b0); (try clear c4b1); (try clear q7); (try clear hcz6_0); (try clear hcz6_1); (try clear hcz6_2); (try clear hfz6_0); (try clear hfz6_1); (try clear hfz6_2); (try clear q7); obtain ⟨x5_1, x13_1, rfl, rfl, HA, HK1, BK427, HB⟩ := hrel
    cases gk with
    | zero => exact absurd HA.out (by simp [impl_Plan_from.l0])
    | succ k1 =>
     have H := HA.out; clear HA; simp only [impl_Plan_from.l0] at H
     by_cases c8 : x13_1 < (y428.length : Int)
     ·rw [if_pos c8] at H; have c8b0 : decide (x13_1 < (y428.length : Int)) = true := decide_eq_true c8; clear c8; by_cases c9 : 0 ≤ x13_1
      ·rw [if_pos c9] at H; have c9b0 : decide (0 ≤ x13_1) = true := decide_eq_true c9; clear c9; by_cases c10 : x13_1 < (y428.length : Int)
       ·rw [if_pos c10] at H; have c10b0 : decide (x13_1 < (y428.length : Int)) = true := decide_eq_true c10; clear c10; have H' := Aside0.mk H; clear H; have p432 : 0 ≤ (x13_1 : Int) := of_decide_eq_true (by first | (with_reducible assumption) | assumption); have q432 : x13_1 < (y428.length : Int) := of_decide_eq_true (by first | (with_reducible assumption) | assumption); obtain ⟨ad432, e432, hx432_0, hx432_1⟩ := at_T42 HR431.out x13_1 p432 q432
        cases e432
        replace hx432_0 := (HB.out.cell (World.block_lt_of_cell? w _ hx432_0)).trans hx432_0; replace hx432_1 := (HB.out.cell (World.block_lt_of_cell? w _ hx432_1)).trans hx432_1; replace p432 := eq_true p432; replace q432 := eq_true q432; go_wp2_with (first | ((with_reducible refine gate_dst (N := 7) rfl ?_); refine be_ (N := 7) (cs := #[.int .i64 0, .int .i64 0]) (t := 42) ?_; intro gb433 hg w11 hbox hb; have BK433 := am_ (hbox); have GW433 := am_ (hy_ hg (hb1_ HB.out GE427.out) : w.heap.size ≤ gb433); have GE433 := GW433; have NB427_433 := am_ (bl_ hg BK427.out : gb427 ≠ gb433); have NB433_427 := nb_ NB427_433; replace BK427 := am_ (bb_ BK427.out hb); replace HB := am_ (below_step (hb1_ HB.out GE427.out) hb); clear hb hbox hg; have hnb12 := NB433_427.out; have hnc12 := NB427_433.out; obtain ⟨hcz13_0, hcz13_1, hfz13_0, hfz13_1⟩ := bc2_ BK433.out; have hcz14_0 := bc_ BK427.out 0 (.int .i64 a0_0) rfl; have hcz14_1 := bc_ BK427.out 1 (.int .i64 a0_1) rfl; have hcz14_2 : w11.cell? ⟨gb427, 2, none⟩ = some (.slice (some ad432) l0_2.length c0_2) := (blk_cell BK427.out 2).trans rfl; have hfz14_0 := blk_frozen BK427.out 0; have hfz14_1 := blk_frozen BK427.out 1; have hfz14_2 := blk_frozen BK427.out 2))
        go_roundg k1
        case measure => have := HK1.out; omega
        case rel => exact ⟨(wrap64 (x5_1 + (wrap64 (((rd_T42 y428 x13_1).f1) + a0_1)))), (wrap64 (x13_1 + 1)), (by first | rfl | (simp; done) | (simp [*]; done)), (by first | rfl | (simp; done) | (simp [*]; done)), H', ⟨by have := HK1.out; omega⟩, ⟨by (with_reducible repeat (first | refine blk_drewN ?_ _ | refine blk_drew ?_ | refine blk_alloc ?_ _)); refine blk_far ?_ NB427_433.out _; (with_reducible repeat (first | refine blk_drewN ?_ _ | refine blk_drew ?_ | refine blk_alloc ?_ _)); refine blk_far ?_ NB427_433.out _; (with_reducible repeat (first | refine blk_drewN ?_ _ | refine blk_drew ?_ | refine blk_alloc ?_ _)); exact BK427.out⟩, ⟨hb2_ HB.out GE427.out GE433.out⟩⟩
       ·rw [if_neg c10] at H; exact absurd H (by simp)
      ·rw [if_neg c9] at H; exact absurd H (by simp)
     ·rw [if_neg c8] at H; have c8b0 : decide (x13_1 < (y428.length : Int)) = false := decide_eq_false c8; clear c8; obtain rfl := Option.some.inj H; go_wp2
      go_ret
      exact ⟨er_, hb1_ HB.out GE427.out⟩
  ·rw [if_neg c4] at H; exact absurd H (by simp)
 ·rw [if_neg c3] at H; exact absurd H (by simp)
def impl_Plan_round.f (k : Nat) (a0_0 : Int) (a0_1 : Int) (l0_2 : List (S42)) : Option (Int) := (impl_Plan_from.f k a0_0 a0_1 l0_2 (l0_2.length : Int)).bind fun t435 => (some t435)
set_option maxHeartbeats 8000000 in
set_option maxRecDepth 100000 in
theorem impl_Plan_round.calls (k : Nat) (a0_0 : Int) (a0_1 : Int) (A0_2 : Option Addr) (c0_2 : Nat) (l0_2 : List (S42)) (r : Int) (w : World) (hr0_2 : Kd.C k42 w A0_2 l0_2.length l0_2) (hc0_2 : l0_2.length ≤ c0_2) (h : impl_Plan_round.f k a0_0 a0_1 l0_2 = some r) :
  Calls Try.prog 59 #[.agg #[.int .i64 a0_0, .int .i64 a0_1, .slice A0_2 l0_2.length c0_2]] w fun e w' => e = .returned (.int .i64 r) ∧ Below w.heap.size w w' := by
 have hu30 := Try.underlying30; have HR0_2 := Aside0.mk hr0_2; have HC0_2 := Aside0.mk hc0_2; clear hr0_2 hc0_2; have HB := am_ (Below.refl w.heap.size w); have H : ((impl_Plan_from.f k a0_0 a0_1 l0_2 (l0_2.length : Int)).bind fun t435 => (some t435)) = some r := h; clear h; obtain ⟨t435, A2, H⟩ := ab_ H; obtain rfl := Option.some.inj H; go_enter Try.func59, Try.ntmps59
 go_wp2_with (first | ((with_reducible refine gate_dst (N := 1) rfl ?_); refine be_ (N := 1) (cs := #[.int .i64 a0_0, .int .i64 a0_1, .slice A0_2 l0_2.length c0_2]) (t := 30) ?_; intro gb434 hg w3 hbox hb; have BK434 := am_ (hbox); have GW434 := am_ (hy_ hg (hb_ HB.out) : w.heap.size ≤ gb434); have GE434 := GW434; replace HB := am_ (below_step (hb_ HB.out) hb); clear hb hbox hg; obtain ⟨hcz4_0, hcz4_1, hcz4_2, hfz4_0, hfz4_1, hfz4_2⟩ := bc3_ BK434.out) | ((with_reducible refine gate_callee (f := 60) rfl ?_); refine gl_ Try.func60 #[.agg #[.int .i64 a0_0, .int .i64 a0_1, .slice A0_2 l0_2.length c0_2], .int .i64 (l0_2.length : Int)] ?_; (with_reducible refine (impl_Plan_from.calls k a0_0 a0_1 _ _ l0_2 (l0_2.length : Int) t435 _ ?side1 ?side2 A2.out).mono ?_); (case side1 => exact kc_ (Kd.C_below HR0_2.out HB.out)); (case side2 => exact HC0_2.out); rintro e w5 ⟨rfl, hb⟩; refine ⟨_, rfl, ?_⟩; replace BK434 := am_ (bb_ BK434.out hb); replace HB := am_ (below_step (hb1_ HB.out GE434.out) hb); (try clear hb); (try clear hb2); (try clear hk); (try clear hi)))
 go_ret
 exact ⟨er_, hb1_ HB.out GE434.out⟩
def impl_IvalOk.f (a0_0 : Int) (a0_1 : Int) : Option (Bool) := if (-1000000000000) ≤ a0_0 then (if a0_0 ≤ a0_1 then (some (decide (a0_1 ≤ 1000000000000))) else (some false)) else (some false)
set_option maxHeartbeats 8000000 in
set_option maxRecDepth 100000 in
theorem impl_IvalOk.calls (a0_0 : Int) (a0_1 : Int) (r : Bool) (w : World) (h : impl_IvalOk.f a0_0 a0_1 = some r) :
  Calls Try.prog 46 #[.agg #[.int .i64 a0_0, .int .i64 a0_1]] w fun e w' => e = .returned (.bool r) ∧ Below w.heap.size w w' := by
 have hu25 := Try.underlying25; have HB := am_ (Below.refl w.heap.size w); have H : (if (-1000000000000) ≤ a0_0 then (if a0_0 ≤ a0_1 then (some (decide (a0_1 ≤ 1000000000000))) else (some false)) else (some false)) = some r := h; clear h; by_cases c2 : (-1000000000000) ≤ a0_0
 ·rw [if_pos c2] at H; have c2b0 : decide ((-1000000000000) ≤ a0_0) = true := decide_eq_true c2; clear c2; by_cases c3 : a0_0 ≤ a0_1
  ·rw [if_pos c3] at H; have c3b0 : decide (a0_0 ≤ a0_1) = true := decide_eq_true c3; clear c3; obtain rfl := Option.some.inj H; go_enter Try.func46, Try.ntmps46
   go_wp2_with (first | ((with_reducible refine gate_dst (N := 1) rfl ?_); refine be_ (N := 1) (cs := #[.int .i64 a0_0, .int .i64 a0_1]) (t := 25) ?_; intro gb401 hg w4 hbox hb; have BK401 := am_ (hbox); have GW401 := am_ (hy_ hg (hb_ HB.out) : w.heap.size ≤ gb401); have GE401 := GW401; replace HB := am_ (below_step (hb_ HB.out) hb); clear hb hbox hg; obtain ⟨hcz5_0, hcz5_1, hfz5_0, hfz5_1⟩ := bc2_ BK401.out))
   go_ret
   exact ⟨er_, hb1_ HB.out GE401.out⟩
  ·rw [if_neg c3] at H; have c3b0 : decide (a0_0 ≤ a0_1) = false := decide_eq_false c3; clear c3; obtain rfl := Option.some.inj H; go_enter Try.func46, Try.ntmps46
   go_wp2_with (first | ((with_reducible refine gate_dst (N := 1) rfl ?_); refine be_ (N := 1) (cs := #[.int .i64 a0_0, .int .i64 a0_1]) (t := 25) ?_; intro gb401 hg w6 hbox hb; have BK401 := am_ (hbox); have GW401 := am_ (hy_ hg (hb_ HB.out) : w.heap.size ≤ gb401); have GE401 := GW401; replace HB := am_ (below_step (hb_ HB.out) hb); clear hb hbox hg; obtain ⟨hcz7_0, hcz7_1, hfz7_0, hfz7_1⟩ := bc2_ BK401.out))
   go_ret
   exact ⟨er_, hb1_ HB.out GE401.out⟩
 ·rw [if_neg c2] at H; have c2b0 : decide ((-1000000000000) ≤ a0_0) = false := decide_eq_false c2; clear c2; obtain rfl := Option.some.inj H; go_enter Try.func46, Try.ntmps46
  go_wp2_with (first | ((with_reducible refine gate_dst (N := 1) rfl ?_); refine be_ (N := 1) (cs := #[.int .i64 a0_0, .int .i64 a0_1]) (t := 25) ?_; intro gb401 hg w8 hbox hb; have BK401 := am_ (hbox); have GW401 := am_ (hy_ hg (hb_ HB.out) : w.heap.size ≤ gb401); have GE401 := GW401; replace HB := am_ (below_step (hb_ HB.out) hb); clear hb hbox hg; obtain ⟨hcz9_0, hcz9_1, hfz9_0, hfz9_1⟩ := bc2_ BK401.out))
  go_ret
  exact ⟨er_, hb1_ HB.out GE401.out⟩
def impl_ival.f (a0 : Int) (a1 : Int) : Option (Int × Int × Bool) := (impl_IvalOk.f a0 a1).bind fun t407 => (if t407 = true then (some (a0, a1, true)) else (some (0, 0, false)))
set_option maxHeartbeats 8000000 in
set_option maxRecDepth 100000 in
theorem impl_ival.calls (a0 : Int) (a1 : Int) (r1 : Int) (r2 : Int) (r3 : Bool) (w : World) (h : impl_ival.f a0 a1 = some (r1, r2, r3)) :
  Calls Try.prog 61 #[.int .i64 a0, .int .i64 a1] w fun e w' => e = .returned (.tuple #[.agg #[.int .i64 r1, .int .i64 r2], .bool r3]) ∧ Below w.heap.size w w' := by
 have hu25 := Try.underlying25; have HB := am_ (Below.refl w.heap.size w); have H : ((impl_IvalOk.f a0 a1).bind fun t407 => (if t407 = true then (some (a0, a1, true)) else (some (0, 0, false)))) = some (r1, r2, r3) := h; clear h; obtain ⟨t407, A3, H⟩ := ab_ H; by_cases c4 : t407 = true
 ·subst c4; replace H := i1_ H; simp only [Option.some.injEq, Prod.mk.injEq] at H
  obtain ⟨rfl, rfl, rfl⟩ := H; go_enter Try.func61, Try.ntmps61
  go_wp2_with (first | ((with_reducible refine gate_dst (N := 4) rfl ?_); refine be_ (N := 4) (cs := #[.int .i64 0, .int .i64 0]) (t := 25) ?_; intro gb405 hg w5 hbox hb; have BK405 := am_ (hbox); have GW405 := am_ (hy_ hg (hb_ HB.out) : w.heap.size ≤ gb405); have GE405 := GW405; replace HB := am_ (below_step (hb_ HB.out) hb); clear hb hbox hg) | ((with_reducible refine gate_dst (N := 6) rfl ?_); refine be_ (N := 6) (cs := #[.int .i64 0, .int .i64 0]) (t := 25) ?_; intro gb406 hg w6 hbox hb; have BK406 := am_ (hbox); have GW406 := am_ (hy_ hg (hb1_ HB.out GE405.out) : w.heap.size ≤ gb406); have GE406 := GW406; have NB405_406 := am_ (bl_ hg BK405.out : gb405 ≠ gb406); have NB406_405 := nb_ NB405_406; replace BK405 := am_ (bb_ BK405.out hb); replace HB := am_ (below_step (hb1_ HB.out GE405.out) hb); clear hb hbox hg; have hnb7 := NB406_405.out; have hnc7 := NB405_406.out; obtain ⟨hcz8_0, hcz8_1, hfz8_0, hfz8_1⟩ := bc2_ BK406.out) | ((with_reducible refine gate_callee (f := 46) rfl ?_); refine gl_ Try.func46 #[.agg #[.int .i64 a0, .int .i64 a1]] ?_; (with_reducible refine (impl_IvalOk.calls a0 a1 true _ A3.out).mono ?_); rintro e w9 ⟨rfl, hb⟩; refine ⟨_, rfl, ?_⟩; replace BK405 := am_ (blk_below (g := gb405) (o := .cells #[.int .i64 0, .int .i64 0] 25 (0, 0)) (by (with_reducible repeat (first | refine blk_drewN ?_ _ | refine blk_drew ?_ | refine blk_alloc ?_ _)); refine blk_far ?_ NB405_406.out _; (with_reducible repeat (first | refine blk_drewN ?_ _ | refine blk_drew ?_ | refine blk_alloc ?_ _)); refine blk_far ?_ NB405_406.out _; (with_reducible repeat (first | refine blk_drewN ?_ _ | refine blk_drew ?_ | refine blk_alloc ?_ _)); exact BK405.out) hb); replace BK406 := am_ (blk_below (g := gb406) (o := .cells #[.int .i64 a0, .int .i64 a1] 25 (0, 0)) (by (with_reducible repeat (first | refine blk_drewN ?_ _ | refine blk_drew ?_ | refine blk_alloc ?_ _)); refine blk_put (cs := #[.int .i64 a0, .int .i64 0]) ?_ 1 _ rfl; (with_reducible repeat (first | refine blk_drewN ?_ _ | refine blk_drew ?_ | refine blk_alloc ?_ _)); refine blk_put (cs := #[.int .i64 0, .int .i64 0]) ?_ 0 _ rfl; (with_reducible repeat (first | refine blk_drewN ?_ _ | refine blk_drew ?_ | refine blk_alloc ?_ _)); exact BK406.out) hb); replace HB := am_ (below_step (hb2_ HB.out GE405.out GE406.out) hb); (try clear hb); (try clear hb2); (try clear hk); (try clear hi); obtain ⟨hcz10_0, hcz10_1, hfz10_0, hfz10_1⟩ := bc2_ BK406.out; obtain ⟨hcz11_0, hcz11_1, hfz11_0, hfz11_1⟩ := bc2_ BK405.out))
  refine bodyPost_ret (results_ct rfl _ _ gb405 25 #[.int .i64 a0, .int .i64 a1] (0, 0) _ rfl (by (with_reducible repeat (first | refine blk_drewN ?_ _ | refine blk_drew ?_ | refine blk_alloc ?_ _)); refine blk_put (cs := #[.int .i64 a0, .int .i64 0]) ?_ 1 _ rfl; (with_reducible repeat (first | refine blk_drewN ?_ _ | refine blk_drew ?_ | refine blk_alloc ?_ _)); refine blk_put (cs := #[.int .i64 0, .int .i64 0]) ?_ 0 _ rfl; (with_reducible repeat (first | refine blk_drewN ?_ _ | refine blk_drew ?_ | refine blk_alloc ?_ _)); exact BK405.out) Try.underlying25 rfl (by kernel_rfl)) rfl ?_
  exact ⟨er_, hb2_ HB.out GE405.out GE406.out⟩
 ·replace c4 := Bool.eq_false_iff.mpr c4; subst c4; replace H := i0_ H; simp only [Option.some.injEq, Prod.mk.injEq] at H
  obtain ⟨rfl, rfl, rfl⟩ := H; go_enter Try.func61, Try.ntmps61
  go_wp2_with (first | ((with_reducible refine gate_dst (N := 4) rfl ?_); refine be_ (N := 4) (cs := #[.int .i64 0, .int .i64 0]) (t := 25) ?_; intro gb405 hg w12 hbox hb; have BK405 := am_ (hbox); have GW405 := am_ (hy_ hg (hb_ HB.out) : w.heap.size ≤ gb405); have GE405 := GW405; replace HB := am_ (below_step (hb_ HB.out) hb); clear hb hbox hg) | ((with_reducible refine gate_dst (N := 6) rfl ?_); refine be_ (N := 6) (cs := #[.int .i64 0, .int .i64 0]) (t := 25) ?_; intro gb406 hg w13 hbox hb; have BK406 := am_ (hbox); have GW406 := am_ (hy_ hg (hb1_ HB.out GE405.out) : w.heap.size ≤ gb406); have GE406 := GW406; have NB405_406 := am_ (bl_ hg BK405.out : gb405 ≠ gb406); have NB406_405 := nb_ NB405_406; replace BK405 := am_ (bb_ BK405.out hb); replace HB := am_ (below_step (hb1_ HB.out GE405.out) hb); clear hb hbox hg; have hnb14 := NB406_405.out; have hnc14 := NB405_406.out; obtain ⟨hcz15_0, hcz15_1, hfz15_0, hfz15_1⟩ := bc2_ BK406.out) | ((with_reducible refine gate_callee (f := 46) rfl ?_); refine gl_ Try.func46 #[.agg #[.int .i64 a0, .int .i64 a1]] ?_; (with_reducible refine (impl_IvalOk.calls a0 a1 false _ A3.out).mono ?_); rintro e w16 ⟨rfl, hb⟩; refine ⟨_, rfl, ?_⟩; replace BK405 := am_ (blk_below (g := gb405) (o := .cells #[.int .i64 0, .int .i64 0] 25 (0, 0)) (by (with_reducible repeat (first | refine blk_drewN ?_ _ | refine blk_drew ?_ | refine blk_alloc ?_ _)); refine blk_far ?_ NB405_406.out _; (with_reducible repeat (first | refine blk_drewN ?_ _ | refine blk_drew ?_ | refine blk_alloc ?_ _)); refine blk_far ?_ NB405_406.out _; (with_reducible repeat (first | refine blk_drewN ?_ _ | refine blk_drew ?_ | refine blk_alloc ?_ _)); exact BK405.out) hb); replace BK406 := am_ (blk_below (g := gb406) (o := .cells #[.int .i64 a0, .int .i64 a1] 25 (0, 0)) (by (with_reducible repeat (first | refine blk_drewN ?_ _ | refine blk_drew ?_ | refine blk_alloc ?_ _)); refine blk_put (cs := #[.int .i64 a0, .int .i64 0]) ?_ 1 _ rfl; (with_reducible repeat (first | refine blk_drewN ?_ _ | refine blk_drew ?_ | refine blk_alloc ?_ _)); refine blk_put (cs := #[.int .i64 0, .int .i64 0]) ?_ 0 _ rfl; (with_reducible repeat (first | refine blk_drewN ?_ _ | refine blk_drew ?_ | refine blk_alloc ?_ _)); exact BK406.out) hb); replace HB := am_ (below_step (hb2_ HB.out GE405.out GE406.out) hb); (try clear hb); (try clear hb2); (try clear hk); (try clear hi); obtain ⟨hcz17_0, hcz17_1, hfz17_0, hfz17_1⟩ := bc2_ BK405.out))
  refine bodyPost_ret (results_ct rfl _ _ gb405 25 #[.int .i64 0, .int .i64 0] (0, 0) _ rfl (by (with_reducible repeat (first | refine blk_drewN ?_ _ | refine blk_drew ?_ | refine blk_alloc ?_ _)); refine blk_put (cs := #[.int .i64 0, .int .i64 0]) ?_ 1 _ rfl; (with_reducible repeat (first | refine blk_drewN ?_ _ | refine blk_drew ?_ | refine blk_alloc ?_ _)); refine blk_put (cs := #[.int .i64 0, .int .i64 0]) ?_ 0 _ rfl; (with_reducible repeat (first | refine blk_drewN ?_ _ | refine blk_drew ?_ | refine blk_alloc ?_ _)); exact BK405.out) Try.underlying25 rfl (by kernel_rfl)) rfl ?_
  exact ⟨er_, hb2_ HB.out GE405.out GE406.out⟩
def impl_Occurrence.j0 : Nat → Int → Int → Bool → Int → Int → List (S42) → Option (Int × Int × Bool)
 | 0, _, _, _, _, _, _ => none
 | k + 1, x1, x2, x20, x437000, x437001, x437002 => if x20 = true then (some (0, 0, false)) else ((impl_Plan_round.f k x437000 x437001 x437002).bind fun t441 => ((impl_Plan_from.f k x437000 x437001 x437002 x1).bind fun t442 => (if 0 ≤ x1 then (if x1 < (x437002.length : Int) then ((impl_ival.f (wrap64 ((wrap64 (x437000 + (wrap64 (x2 * t441)))) + t442)) (wrap64 ((wrap64 ((wrap64 (x437000 + (wrap64 (x2 * t441)))) + t442)) + ((rd_T42 x437002 x1).f1)))).bind fun bt444 => (some (bt444.1, bt444.2.1, bt444.2.2))) else (none)) else (none))))
def impl_Occurrence.f (k : Nat) (a0_0 : Int) (a0_1 : Int) (l0_2 : List (S42)) (a1 : Int) (a2 : Int) : Option (Int × Int × Bool) := (impl_isSlot.f k a0_0 a0_1 l0_2 a1).bind fun t438 => (if t438 = true then ((impl_Plan_round.f k a0_0 a0_1 l0_2).bind fun t439 => (if t439 = 0 then (none) else ((impl_in.f a2 0 (wrap64 (Int.tdiv (1000000000000 : Int) t439))).bind fun t440 => (impl_Occurrence.j0 k a1 a2 (!t440) a0_0 a0_1 l0_2)))) else (impl_Occurrence.j0 k a1 a2 true a0_0 a0_1 l0_2))
def impl_Occurrence.T3 : Bool × List (List Nat × List Nat) := (true, [([], []), ([0], [0]), ([], []), ([], []), ([3], [3]), ([2, 4], [2, 4]), ([1, 5], [1, 5]), ([], []), ([], []), ([7, 8, 4], [7, 8]), ([6, 9], [6, 9]), ([10, 9, 0, 1, 2, 3, 4, 5, 6, 7, 8, 9, 10], [10])])
def impl_Occurrence.B3 : List Nat := [0, 1, 0, 0, 8, 28, 63, 0, 0, 408, 1023, 2047]
theorem impl_Occurrence.tab3 : rtab .any (opsOf Try.f12 3) = impl_Occurrence.T3 := by kernel_rfl
theorem impl_Occurrence.bits3 : waitsOk impl_Occurrence.T3.2 impl_Occurrence.B3 = true := by kernel_rfl
set_option maxHeartbeats 8000000 in
set_option maxRecDepth 100000 in
theorem impl_Occurrence.calls (k : Nat) (a0_0 : Int) (a0_1 : Int) (A0_2 : Option Addr) (c0_2 : Nat) (l0_2 : List (S42)) (a1 : Int) (a2 : Int) (r1 : Int) (r2 : Int) (r3 : Bool) (w : World) (hr0_2 : Kd.C k42 w A0_2 l0_2.length l0_2) (hc0_2 : l0_2.length ≤ c0_2) (h : impl_Occurrence.f k a0_0 a0_1 l0_2 a1 a2 = some (r1, r2, r3)) :
  Calls Try.prog 12 #[.agg #[.int .i64 a0_0, .int .i64 a0_1, .slice A0_2 l0_2.length c0_2], .int .i64 a1, .int .i64 a2] w fun e w' => e = .returned (.tuple #[.agg #[.int .i64 r1, .int .i64 r2], .bool r3]) ∧ Below w.heap.size w w' := by
 have hu30 := Try.underlying30; have hu25 := Try.underlying25; have HR0_2 := Aside0.mk hr0_2; have HC0_2 := Aside0.mk hc0_2; clear hr0_2 hc0_2; have HB := am_ (Below.refl w.heap.size w); have H : ((impl_isSlot.f k a0_0 a0_1 l0_2 a1).bind fun t438 => (if t438 = true then ((impl_Plan_round.f k a0_0 a0_1 l0_2).bind fun t439 => (if t439 = 0 then (none) else ((impl_in.f a2 0 (wrap64 (Int.tdiv (1000000000000 : Int) t439))).bind fun t440 => (impl_Occurrence.j0 k a1 a2 (!t440) a0_0 a0_1 l0_2)))) else (impl_Occurrence.j0 k a1 a2 true a0_0 a0_1 l0_2))) = some (r1, r2, r3) := h; clear h; have HC4 := Aside0.mk H; clear H; go_enter Try.func12, Try.ntmps12
 go_upto_region 1 with (first | ((with_reducible refine gate_dst (N := 3) rfl ?_); refine be_ (N := 3) (cs := #[.int .i64 a0_0, .int .i64 a0_1, .slice A0_2 l0_2.length c0_2]) (t := 30) ?_; intro gb436 hg w5 hbox hb; have BK436 := am_ (hbox); have GW436 := am_ (hy_ hg (hb_ HB.out) : w.heap.size ≤ gb436); have GE436 := GW436; replace HB := am_ (below_step (hb_ HB.out) hb); clear hb hbox hg) | ((with_reducible refine gate_dst (N := 6) rfl ?_); refine be_ (N := 6) (cs := #[.int .i64 0, .int .i64 0]) (t := 25) ?_; intro gb437 hg w6 hbox hb; have BK437 := am_ (hbox); have GW437 := am_ (hy_ hg (hb1_ HB.out GE436.out) : w.heap.size ≤ gb437); have GE437 := GW437; have NB436_437 := am_ (bl_ hg BK436.out : gb436 ≠ gb437); have NB437_436 := nb_ NB436_437; replace BK436 := am_ (bb_ BK436.out hb); replace HB := am_ (below_step (hb1_ HB.out GE436.out) hb); clear hb hbox hg))
 (try simp only [Act.put, List.setIfInBounds_toArray, List.set_cons_zero, List.set_cons_succ]); go_cut [20] (fun v20 wc => ∃ (kq : Nat) (x20_3 : Bool), v20 = .bool x20_3 ∧ Aside0 (impl_Occurrence.j0 kq a1 a2 x20_3 a0_0 a0_1 l0_2 = some (r1, r2, r3)) ∧ Aside0 (kq ≤ k) ∧ Aside0 (wc.heap[gb436]? = some (.cells #[.int .i64 a0_0, .int .i64 a0_1, (.slice A0_2 l0_2.length c0_2)] 30 (0, 0))) ∧ Aside0 (wc.heap[gb437]? = some (.cells #[.int .i64 0, .int .i64 0] 25 (0, 0))) ∧ Aside0 (Below w.heap.size w wc))
 case first =>
  have H := HC4.out; clear HC4; obtain ⟨t438, A7, H⟩ := ab_ H; by_cases c8 : t438 = true
  ·subst c8; replace H := i1_ H; obtain ⟨t439, A9, H⟩ := ab_ H; by_cases c10 : t439 = 0
   ·rw [if_pos c10] at H; exact absurd H (by simp)
   ·rw [if_neg c10] at H; have c10b0 : (t439 == 0) = false := beq_eq_false_iff_ne.mpr c10; have c10b1 : (t439 != 0) = true := bne_iff_ne.mpr c10; (first | rw [c10b0] | (simp only [i64_w, i32_w]; rw [c10b0]) | skip)
    obtain ⟨t440, A11, H⟩ := ab_ H; have H' := Aside0.mk H; clear H; have hnb12 := NB436_437.out; have hnc12 := NB437_436.out; have hcz13_0 := bc_ BK436.out 0 (.int .i64 a0_0) rfl; have hcz13_1 := bc_ BK436.out 1 (.int .i64 a0_1) rfl; have hcz13_2 := bc_ BK436.out 2 (.slice A0_2 l0_2.length c0_2) rfl; have hfz13_0 := blk_frozen BK436.out 0; have hfz13_1 := blk_frozen BK436.out 1; have hfz13_2 := blk_frozen BK436.out 2
    go_wp2_with (first | ((with_reducible refine gate_callee (f := 58) rfl ?_); refine gl_ Try.func58 #[.agg #[.int .i64 a0_0, .int .i64 a0_1, .slice A0_2 l0_2.length c0_2], .int .i64 a1] ?_; (with_reducible refine (impl_isSlot.calls k a0_0 a0_1 _ _ l0_2 a1 true _ ?side1 ?side2 A7.out).mono ?_); (case side1 => exact kc_ (Kd.C_below HR0_2.out HB.out)); (case side2 => exact HC0_2.out); rintro e w14 ⟨rfl, hb⟩; refine ⟨_, rfl, ?_⟩; replace BK436 := am_ (bb_ BK436.out hb); replace BK437 := am_ (bb_ BK437.out hb); replace HB := am_ (below_step (hb2_ HB.out GE436.out GE437.out) hb); (try clear hb); (try clear hb2); (try clear hk); (try clear hi); obtain ⟨hcz15_0, hcz15_1, hcz15_2, hfz15_0, hfz15_1, hfz15_2⟩ := bc3_ BK436.out) | (go_at_call 59; (with_reducible refine (impl_Plan_round.calls k a0_0 a0_1 _ _ l0_2 t439 _ ?side1 ?side2 A9.out).mono ?_); (case side1 => exact kc_ (Kd.C_below HR0_2.out HB.out)); (case side2 => exact HC0_2.out); rintro e w16 ⟨rfl, hb⟩; replace BK436 := am_ (bb_ BK436.out hb); replace BK437 := am_ (bb_ BK437.out hb); replace HB := am_ (below_step (hb2_ HB.out GE436.out GE437.out) hb); (try clear hb); (try clear hb2); (try clear hk); (try clear hi)) | (go_at_call 48; (with_reducible refine (impl_in.calls a2 0 (wrap64 (Int.tdiv (1000000000000 : Int) t439)) t440 _ A11.out).mono ?_); rintro e w' ⟨rfl, ⟨nd, rfl⟩⟩))
    go_meet
    case rel => exact ⟨_, (!t440), (by first | rfl | (simp; done) | (simp [*]; done)), H', ⟨by first | omega | exact Nat.le_refl _⟩, ⟨bk_ BK436.out⟩, ⟨bk_ BK437.out⟩, ⟨hb2_ HB.out GE436.out GE437.out⟩⟩
  ·replace c8 := Bool.eq_false_iff.mpr c8; subst c8; replace H := i0_ H; have H' := Aside0.mk H; clear H; have hnb17 := NB436_437.out; have hnc17 := NB437_436.out; have hcz18_0 := bc_ BK436.out 0 (.int .i64 a0_0) rfl; have hcz18_1 := bc_ BK436.out 1 (.int .i64 a0_1) rfl; have hcz18_2 := bc_ BK436.out 2 (.slice A0_2 l0_2.length c0_2) rfl; have hfz18_0 := blk_frozen BK436.out 0; have hfz18_1 := blk_frozen BK436.out 1; have hfz18_2 := blk_frozen BK436.out 2; go_wp2_with (first | ((with_reducible refine gate_callee (f := 58) rfl ?_); refine gl_ Try.func58 #[.agg #[.int .i64 a0_0, .int .i64 a0_1, .slice A0_2 l0_2.length c0_2], .int .i64 a1] ?_; (with_reducible refine (impl_isSlot.calls k a0_0 a0_1 _ _ l0_2 a1 false _ ?side1 ?side2 A7.out).mono ?_); (case side1 => exact kc_ (Kd.C_below HR0_2.out HB.out)); (case side2 => exact HC0_2.out); rintro e w19 ⟨rfl, hb⟩; refine ⟨_, rfl, ?_⟩; replace BK436 := am_ (bb_ BK436.out hb); replace BK437 := am_ (bb_ BK437.out hb); replace HB := am_ (below_step (hb2_ HB.out GE436.out GE437.out) hb); (try clear hb); (try clear hb2); (try clear hk); (try clear hi)))
   go_meet
   case rel => exact ⟨_, (true), (by first | rfl | (simp; done) | (simp [*]; done)), H', ⟨by first | omega | exact Nat.le_refl _⟩, ⟨bk_ BK436.out⟩, ⟨bk_ BK437.out⟩, ⟨hb2_ HB.out GE436.out GE437.out⟩⟩
 case rest =>
  clear HC4; (try clear c8); (try clear c10); (try clear c10b0); (try clear c10b1); (try clear hcz13_0); (try clear hcz13_1); (try clear hcz13_2); (try clear hcz15_0); (try clear hcz15_1); (try clear hcz15_2); (try clear hcz18_0); (try clear hcz18_1); (try clear hcz18_2); (try clear hfz13_0); (try clear hfz13_1); (try clear hfz13_2); (try clear hfz15_0); (try clear hfz15_1); (try clear hfz15_2); (try clear hfz18_0); (try clear hfz18_1); (try clear hfz18_2); obtain ⟨kq, x20_3, rfl, HA, HJ3, BK436, BK437, HB⟩ := hcut
  cases kq with
  | zero => exact absurd HA.out (by simp [impl_Occurrence.j0])
  | succ kj3 =>
   have H := HA.out; clear HA; simp only [impl_Occurrence.j0] at H
   by_cases c20 : x20_3 = true
   ·subst c20; replace H := i1_ H; simp only [Option.some.injEq, Prod.mk.injEq] at H
    obtain ⟨rfl, rfl, rfl⟩ := H; have hnb21 := NB437_436.out; have hnc21 := NB436_437.out; have hcz22_0 := bc_ BK437.out 0 (.int .i64 0) rfl; have hcz22_1 := bc_ BK437.out 1 (.int .i64 0) rfl; have hfz22_0 := blk_frozen BK437.out 0; have hfz22_1 := blk_frozen BK437.out 1; go_wp2
    refine bodyPost_ret (results_ct rfl _ _ gb437 25 #[.int .i64 0, .int .i64 0] (0, 0) _ rfl (by (with_reducible repeat (first | refine blk_drewN ?_ _ | refine blk_drew ?_ | refine blk_alloc ?_ _)); refine blk_put (cs := #[.int .i64 0, .int .i64 0]) ?_ 1 _ rfl; (with_reducible repeat (first | refine blk_drewN ?_ _ | refine blk_drew ?_ | refine blk_alloc ?_ _)); refine blk_put (cs := #[.int .i64 0, .int .i64 0]) ?_ 0 _ rfl; (with_reducible repeat (first | refine blk_drewN ?_ _ | refine blk_drew ?_ | refine blk_alloc ?_ _)); exact BK437.out) Try.underlying25 rfl (by kernel_rfl)) rfl ?_
    exact ⟨er_, hb2_ HB.out GE436.out GE437.out⟩
   ·replace c20 := Bool.eq_false_iff.mpr c20; subst c20; replace H := i0_ H; obtain ⟨t441, A23, H⟩ := ab_ H; obtain ⟨t442, A24, H⟩ := ab_ H; by_cases c25 : 0 ≤ a1
    ·rw [if_pos c25] at H; have c25b0 : decide (0 ≤ a1) = true := decide_eq_true c25; clear c25; by_cases c26 : a1 < (l0_2.length : Int)
     ·rw [if_pos c26] at H; have c26b0 : decide (a1 < (l0_2.length : Int)) = true := decide_eq_true c26; clear c26; obtain ⟨⟨t444, t445, t446⟩, A27, H⟩ := ab_ H; (try dsimp only at H); simp only [Option.some.injEq, Prod.mk.injEq] at H
      obtain ⟨rfl, rfl, rfl⟩ := H; try go_wp2
      have n0_ := am_ (blk_drew BK436.out); have n1_ := am_ (blk_drew BK437.out); have n2_ := am_ (below_drew1 HB.out); clear BK436; clear BK437; clear HB; have BK436 := n0_; have BK437 := n1_; have HB := n2_; clear n0_ n1_ n2_; refine start_ (n := 12) (S := fun w' => w'.cell? ⟨gb436, 0, none⟩ = some (.int .i64 a0_0) ∧ w'.cell? ⟨gb436, 1, none⟩ = some (.int .i64 a0_1) ∧ w'.cell? ⟨gb436, 2, none⟩ = some (.slice A0_2 l0_2.length c0_2)) (ds := []) #[false, false, false, false, false, false, false, false, false, false, false, false] (by kernel_rfl) rfl rfl ⟨(blk_cell BK436.out 0).trans rfl, (blk_cell BK436.out 1).trans rfl, (blk_cell BK436.out 2).trans rfl⟩ (fun hHeld => ?_); refine with_tabW impl_Occurrence.tab3 impl_Occurrence.bits3 (fun HT_ HW_ => ?_)
      generalize wc.drew = w28 at BK436 BK437 HB hHeld ⊢
      refine pure_ (i := 0) (N := some 22) (v := ?_) (a' := ?_) #[true, false, false, false, false, false, false, false, false, false, false, false] rfl rfl (any_of HT_.out (by kernel_rfl)) (fun _ _ _ h => h) (Or.inl ⟨by rfl, ?_⟩) ?_ ?_
      rotate_left
      ·intro w'; go_simp
       with_reducible rfl
      rotate_left
      ·simp only [Act.put, List.setIfInBounds_toArray, List.set_cons_zero, List.set_cons_succ, i64_w, i32_w]
       rfl
      refine pure_ (i := 2) (N := some 24) (v := ?_) (a' := ?_) #[true, false, true, false, false, false, false, false, false, false, false, false] rfl rfl (any_of HT_.out (by kernel_rfl)) (fun _ _ _ h => h) (Or.inl ⟨by rfl, ?_⟩) ?_ ?_
      rotate_left
      ·intro w'; go_simp
       with_reducible rfl
      rotate_left
      ·simp only [Act.put, List.setIfInBounds_toArray, List.set_cons_zero, List.set_cons_succ, i64_w, i32_w]
       rfl
      refine pure_ (i := 8) (N := some 30) (v := ?_) (a' := ?_) #[true, false, true, false, false, false, false, false, true, false, false, false] rfl rfl (any_of HT_.out (by kernel_rfl)) (fun _ _ _ h => h) (Or.inl ⟨by rfl, ?_⟩) ?_ ?_
      rotate_left
      ·intro w'; go_simp
       with_reducible rfl
      rotate_left
      ·simp only [Act.put, List.setIfInBounds_toArray, List.set_cons_zero, List.set_cons_succ, i64_w, i32_w]
       rfl
      refine take_ (i := 1) (N := some 23) (v := ?_) (a' := ?_) #[true, true, true, false, false, false, false, false, true, false, false, false] rfl rfl (take_ofW HT_.out HW_.out (by kernel_rfl)) (fun _ _ _ h => h) (Or.inl ⟨by rfl, ?_⟩) hHeld ?_ ?_
      rotate_left
      ·rintro w' ⟨s0, s1, s2⟩; go_simp
       with_reducible rfl
      rotate_left
      ·simp only [Act.put, List.setIfInBounds_toArray, List.set_cons_zero, List.set_cons_succ, i64_w, i32_w]
       rfl
      refine take_ (i := 3) (N := some 25) (v := ?_) (a' := ?_) #[true, true, true, true, false, false, false, false, true, false, false, false] rfl rfl (take_ofW HT_.out HW_.out (by kernel_rfl)) (fun _ _ _ h => h) (Or.inl ⟨by rfl, ?_⟩) hHeld ?_ ?_
      rotate_left
      ·rintro w' ⟨s0, s1, s2⟩; go_simp
       with_reducible rfl
      rotate_left
      ·simp only [Act.put, List.setIfInBounds_toArray, List.set_cons_zero, List.set_cons_succ, i64_w, i32_w]
       rfl
      refine take_ (i := 7) (N := some 29) (v := ?_) (a' := ?_) #[true, true, true, true, false, false, false, true, true, false, false, false] rfl rfl (take_ofW HT_.out HW_.out (by kernel_rfl)) (fun _ _ _ h => h) (Or.inl ⟨by rfl, ?_⟩) hHeld ?_ ?_
      rotate_left
      ·rintro w' ⟨s0, s1, s2⟩; go_simp
       with_reducible rfl
      rotate_left
      ·simp only [Act.put, List.setIfInBounds_toArray, List.set_cons_zero, List.set_cons_succ, i64_w, i32_w]
       rfl
      refine one_ (i := 4) (N := some 26) #[true, true, true, true, true, false, false, true, true, false, false, false] rfl rfl (one_of HT_.out (by kernel_rfl)) (by decide) (fun K hK => ?_)
      refine goes_ Try.func59 (by kernel_rfl) rfl #[.agg #[.int .i64 a0_0, .int .i64 a0_1, .slice A0_2 l0_2.length c0_2]] (by rfl) rfl rfl arr_ ?_
      with_reducible refine (impl_Plan_round.calls kj3 a0_0 a0_1 _ _ l0_2 t441 _ ?side1 ?side2 A23.out).mono ?_
      (case side1 => exact kc_ (Kd.C_below HR0_2.out HB.out))
      (case side2 => exact HC0_2.out)
      rintro e w29 ⟨rfl, hb⟩; refine ⟨_, rfl, ?_⟩
      have n0_ := am_ (bb_ BK436.out hb); have n1_ := am_ (bb_ BK437.out hb); have n2_ := am_ (below_step (hb2_ HB.out GE436.out GE437.out) hb); clear BK436; clear BK437; clear HB; have BK436 := n0_; have BK437 := n1_; have HB := n2_; clear n0_ n1_ n2_; (try clear hb); (try clear hb2); (try clear hk); (try clear hi); refine hK.out _ _ ⟨(blk_cell BK436.out 0).trans rfl, (blk_cell BK436.out 1).trans rfl, (blk_cell BK436.out 2).trans rfl⟩ (fun hHeld => ?_)
      clear hK K; refine norm_ (a' := ?_) ?_ ?_
      rotate_left
      ·show Act.put _ (some 26) _ = _
       simp only [Act.put, List.setIfInBounds_toArray, List.set_cons_zero, List.set_cons_succ, i64_w, i32_w]
       rfl
      refine pure_ (i := 5) (N := some 27) (v := ?_) (a' := ?_) #[true, true, true, true, true, true, false, true, true, false, false, false] rfl rfl (any_of HT_.out (by kernel_rfl)) (fun _ _ _ h => h) (Or.inl ⟨by rfl, ?_⟩) ?_ ?_
      rotate_left
      ·intro w'; go_simp
       with_reducible rfl
      rotate_left
      ·simp only [Act.put, List.setIfInBounds_toArray, List.set_cons_zero, List.set_cons_succ, i64_w, i32_w]
       rfl
      refine pure_ (i := 6) (N := some 28) (v := ?_) (a' := ?_) #[true, true, true, true, true, true, true, true, true, false, false, false] rfl rfl (any_of HT_.out (by kernel_rfl)) (fun _ _ _ h => h) (Or.inl ⟨by rfl, ?_⟩) ?_ ?_
      rotate_left
      ·intro w'; go_simp
       with_reducible rfl
      rotate_left
      ·simp only [Act.put, List.setIfInBounds_toArray, List.set_cons_zero, List.set_cons_succ, i64_w, i32_w]
       rfl
      refine one_ (i := 9) (N := some 31) #[true, true, true, true, true, true, true, true, true, true, false, false] rfl rfl (one_of HT_.out (by kernel_rfl)) (by decide) (fun K hK => ?_)
      refine goes_ Try.func60 (by kernel_rfl) rfl #[.agg #[.int .i64 a0_0, .int .i64 a0_1, .slice A0_2 l0_2.length c0_2], .int .i64 a1] (by rfl) rfl rfl arr_ ?_
      with_reducible refine (impl_Plan_from.calls kj3 a0_0 a0_1 _ _ l0_2 a1 t442 _ ?side1 ?side2 A24.out).mono ?_
      (case side1 => exact kc_ (Kd.C_below HR0_2.out HB.out))
      (case side2 => exact HC0_2.out)
      rintro e w30 ⟨rfl, hb⟩; refine ⟨_, rfl, ?_⟩
      have n0_ := am_ (bb_ BK436.out hb); have n1_ := am_ (bb_ BK437.out hb); have n2_ := am_ (below_step (hb2_ HB.out GE436.out GE437.out) hb); clear BK436; clear BK437; clear HB; have BK436 := n0_; have BK437 := n1_; have HB := n2_; clear n0_ n1_ n2_; (try clear hb); (try clear hb2); (try clear hk); (try clear hi); refine hK.out _ _ ⟨(blk_cell BK436.out 0).trans rfl, (blk_cell BK436.out 1).trans rfl, (blk_cell BK436.out 2).trans rfl⟩ (fun hHeld => ?_)
      clear hK K; refine norm_ (a' := ?_) ?_ ?_
      rotate_left
      ·show Act.put _ (some 31) _ = _
       simp only [Act.put, List.setIfInBounds_toArray, List.set_cons_zero, List.set_cons_succ, i64_w, i32_w]
       rfl
      refine pure_ (i := 10) (N := some 32) (v := ?_) (a' := ?_) #[true, true, true, true, true, true, true, true, true, true, true, false] rfl rfl (any_of HT_.out (by kernel_rfl)) (fun _ _ _ h => h) (Or.inl ⟨by rfl, ?_⟩) ?_ ?_
      rotate_left
      ·intro w'; go_simp
       with_reducible rfl
      rotate_left
      ·simp only [Act.put, List.setIfInBounds_toArray, List.set_cons_zero, List.set_cons_succ, i64_w, i32_w]
       rfl
      refine pure_ (i := 11) (N := some 8) (v := ?_) (a' := ?_) #[true, true, true, true, true, true, true, true, true, true, true, true] rfl rfl (any_of HT_.out (by kernel_rfl)) (fun _ _ _ h => h) (Or.inl ⟨by rfl, ?_⟩) ?_ ?_
      rotate_left
      ·intro w'; go_simp
       with_reducible rfl
      rotate_left
      ·simp only [Act.put, List.setIfInBounds_toArray, List.set_cons_zero, List.set_cons_succ, i64_w, i32_w]
       rfl
      refine done_ (done_of HT_.out (by kernel_rfl)) ?_
      have hnb31 := NB436_437.out; have hnc31 := NB437_436.out; have hcz32_0 := bc_ BK436.out 0 (.int .i64 a0_0) rfl; have hcz32_1 := bc_ BK436.out 1 (.int .i64 a0_1) rfl; have hcz32_2 := bc_ BK436.out 2 (.slice A0_2 l0_2.length c0_2) rfl; have hfz32_0 := blk_frozen BK436.out 0; have hfz32_1 := blk_frozen BK436.out 1; have hfz32_2 := blk_frozen BK436.out 2; have p443 : 0 ≤ (a1 : Int) := of_decide_eq_true (by first | (with_reducible assumption) | assumption); have q443 : a1 < (l0_2.length : Int) := of_decide_eq_true (by first | (with_reducible assumption) | assumption); obtain ⟨ad443, e443, hx443_0, hx443_1⟩ := at_T42 HR0_2.out a1 p443 q443
      cases e443
      replace hx443_0 := (HB.out.cell (World.block_lt_of_cell? w _ hx443_0)).trans hx443_0; replace hx443_1 := (HB.out.cell (World.block_lt_of_cell? w _ hx443_1)).trans hx443_1; replace p443 := eq_true p443; replace q443 := eq_true q443; try go_wp2_with (first | ((with_reducible refine gate_callee (f := 61) rfl ?_); refine gl_ Try.func61 #[.int .i64 (wrap64 ((wrap64 (a0_0 + (wrap64 (a2 * t441)))) + t442)), .int .i64 (wrap64 ((wrap64 ((wrap64 (a0_0 + (wrap64 (a2 * t441)))) + t442)) + ((rd_T42 l0_2 a1).f1)))] ?_; (with_reducible refine (impl_ival.calls (wrap64 ((wrap64 (a0_0 + (wrap64 (a2 * t441)))) + t442)) (wrap64 ((wrap64 ((wrap64 (a0_0 + (wrap64 (a2 * t441)))) + t442)) + ((rd_T42 l0_2 a1).f1))) t444 t445 t446 _ A27.out).mono ?_); rintro e w33 ⟨rfl, hb⟩; refine ⟨_, rfl, ?_⟩; replace BK436 := am_ (bb_ BK436.out hb); replace BK437 := am_ (bb_ BK437.out hb); replace HB := am_ (below_step (hb2_ HB.out GE436.out GE437.out) hb); (try clear hb); (try clear hb2); (try clear hk); (try clear hi); obtain ⟨hcz34_0, hcz34_1, hfz34_0, hfz34_1⟩ := bc2_ BK437.out))
      refine bodyPost_ret (results_ct rfl _ _ gb437 25 #[.int .i64 t444, .int .i64 t445] (0, 0) _ rfl (by (with_reducible repeat (first | refine blk_drewN ?_ _ | refine blk_drew ?_ | refine blk_alloc ?_ _)); refine blk_put (cs := #[.int .i64 t444, .int .i64 0]) ?_ 1 _ rfl; (with_reducible repeat (first | refine blk_drewN ?_ _ | refine blk_drew ?_ | refine blk_alloc ?_ _)); refine blk_put (cs := #[.int .i64 0, .int .i64 0]) ?_ 0 _ rfl; (with_reducible repeat (first | refine blk_drewN ?_ _ | refine blk_drew ?_ | refine blk_alloc ?_ _)); exact BK437.out) Try.underlying25 rfl (by kernel_rfl)) rfl ?_
      exact ⟨er_, hb2_ HB.out GE436.out GE437.out⟩
     ·rw [if_neg c26] at H; exact absurd H (by simp)
    ·rw [if_neg c25] at H; exact absurd H (by simp)
def laws_at.f (l0 : List Int) (a1 : Int) : Option (Int) := if a1 < (l0.length : Int) then (if 0 ≤ a1 then (some (wrap64 (rd l0 a1))) else (none)) else (some (Int.tmod (wrap64 ((wrap64 (a1 * 7)) + (l0.length : Int))) 256))
set_option maxHeartbeats 8000000 in
set_option maxRecDepth 100000 in
theorem laws_at.calls (A0 : Option Addr) (c0 : Nat) (l0 : List Int) (a1 : Int) (r : Int) (w : World) (hr0 : Kd.C (Kd.int .u8) w A0 l0.length l0) (hc0 : l0.length ≤ c0) (h : laws_at.f l0 a1 = some r) :
  Calls Try.prog 15 #[.slice A0 l0.length c0, .int .i64 a1] w fun e w' => e = .returned (.int .i64 r) ∧ Drawn0 w w' := by
 have HR0 := Aside0.mk hr0; have HC0 := Aside0.mk hc0; clear hr0 hc0; have H : (if a1 < (l0.length : Int) then (if 0 ≤ a1 then (some (wrap64 (rd l0 a1))) else (none)) else (some (Int.tmod (wrap64 ((wrap64 (a1 * 7)) + (l0.length : Int))) 256))) = some r := h; clear h; by_cases c3 : a1 < (l0.length : Int)
 ·rw [if_pos c3] at H; have c3b0 : decide (a1 < (l0.length : Int)) = true := decide_eq_true c3; clear c3; by_cases c4 : 0 ≤ a1
  ·rw [if_pos c4] at H; have c4b0 : decide (0 ≤ a1) = true := decide_eq_true c4; clear c4; obtain rfl := Option.some.inj H; have p546 : 0 ≤ (a1 : Int) := of_decide_eq_true (by first | (with_reducible assumption) | assumption); have q546 : a1 < (l0.length : Int) := of_decide_eq_true (by first | (with_reducible assumption) | assumption); obtain ⟨ad546, e546, hx546_0⟩ := Kd.at_int HR0.out a1 p546 q546
   cases e546
   replace p546 := eq_true p546; replace q546 := eq_true q546; go_enter Try.func15, Try.ntmps15
   go_wp2
   go_ret
   exact ⟨by first | rfl | (simp; done) | (simp [*]; done), by repeat (first | exact Drawn0.refl _ | apply Drawn0.step)⟩
  ·rw [if_neg c4] at H; exact absurd H (by simp)
 ·rw [if_neg c3] at H; have c3b0 : decide (a1 < (l0.length : Int)) = false := decide_eq_false c3; clear c3; obtain rfl := Option.some.inj H; go_enter Try.func15, Try.ntmps15
  go_wp2
  go_ret
  exact ⟨by first | rfl | (simp; done) | (simp [*]; done), by repeat (first | exact Drawn0.refl _ | apply Drawn0.step)⟩
end Go.Proofs.Ytllpmpfchidhoaa.P
