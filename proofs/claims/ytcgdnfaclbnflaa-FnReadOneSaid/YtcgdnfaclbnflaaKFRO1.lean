/- Texts of the seat's proofs, part 1: functions of the program told as plain functions, with their contracts, and what is shown of them. No condition. -/
import Derived.Test.YtcgdnfaclbnflaaUKFRO
import Derived.Test.YtcgdnfaclbnflaaProg
import Derived.Below
import Derived.Deep.Draws
import Derived.Deep.AppendLies
import Derived.Maps.AppendAt
import Derived.OwnWalk
import Derived.Laws.BytesArg
import Derived.Laws.MakeOwn
import Derived.Laws.OwnMore
import Derived.Deep.OwnRows
import Derived.Tactics
import Derived.Lib.ConvBytes
import Derived.Laws.Slices
import Derived.WalkKit
import Derived.KernelRfl
import Derived.RowKit3
import Derived.Deep.LoopGhost
import Derived.Deep.QuietTactic
import Derived.BigQuiet
import Derived.WideLaws
import Derived.Deep.DeepCutAuto
import Derived.Deep.CutBlock
import Derived.Deep.RegionHeld3
import Derived.Laws.Rows
import Derived.Lib.AppendStr
import Derived.ArgAppend
import Derived.Laws.IdiomCopy
import Derived.OrdersHeld
import Derived.Laws.BitsLemmas
import Derived.RowKit
set_option linter.unusedVariables false
set_option linter.unusedSimpArgs false
namespace Go.Proofs.Ytcgdnfaclbnflaa.P
open Go.RowKit Go.Proofs.YtcgdnfaclbnflaaW.PrintWords Go.Proofs.YtcgdnfaclbnflaaW.PrintLast Go.Proofs.YtcgdnfaclbnflaaW.PrintMore
attribute [local go_sem] max2_int min2_int max_two min_two max_three min_three max_four min_four
set_option linter.unusedVariables false
set_option linter.unusedSimpArgs false
def errW : Option Int → Value
  | none => .nilIface
  | some c => .iface 0 (.int .i64 c)
theorem errW_none : errW none = .nilIface := rfl
theorem errW_some (c : Int) : errW (some c) = .iface 0 (.int .i64 c) := rfl
structure S25 where
  f0 : Int
  f1 : Int
structure S30 where
  f0 : Int
  f1 : Int
structure S124 where
  f0 : Int
  f1 : Int
structure S126 where
  f0 : Bool
  f1 : S124
structure S81 where
  f0 : Int
  f1 : Int
def z81 : S81 := ⟨(0 : Int), (0 : Int)⟩
def k81 : Kd S81 := Kd.iso (Kd.pair (Kd.int .i64) (Kd.int .i64)) (fun x : S81 => (x.f0, x.f1))
theorem k81_open {w : World} {x : S81} {cs : List Value} (h : k81.K w x cs) : cs = [.int .i64 x.f0, .int .i64 x.f1] := by
  obtain ⟨_, _, rfl, rfl, rfl⟩ := h
  exact rfl
theorem k81_mkM (w : World) (base : Nat) (ok : Nat → Prop) (x : S81)  : k81.M w base ok x [.int .i64 x.f0, .int .i64 x.f1] := ⟨[.int .i64 x.f0], [.int .i64 x.f1], rfl, rfl, rfl⟩
structure S83 where
  f0 : Bool
  f1 : S81
def z83 : S83 := ⟨false, z81⟩
def k83 : Kd S83 := Kd.iso (Kd.pair Kd.bool k81) (fun x : S83 => (x.f0, x.f1))
theorem k83_open {w : World} {x : S83} {cs : List Value} (h : k83.K w x cs) : cs = [.bool x.f0, .int .i64 x.f1.f0, .int .i64 x.f1.f1] := by
  obtain ⟨_, _, rfl, rfl, s1⟩ := h
  obtain rfl := k81_open s1
  exact rfl
theorem k83_mkM (w : World) (base : Nat) (ok : Nat → Prop) (x : S83)  : k83.M w base ok x [.bool x.f0, .int .i64 x.f1.f0, .int .i64 x.f1.f1] := ⟨[.bool x.f0], [.int .i64 x.f1.f0, .int .i64 x.f1.f1], rfl, rfl, (k81_mkM w base ok x.f1 )⟩
def rd_T83 (xs : List S83) (i : Int) : S83 := xs.getD i.toNat z83
theorem at_T83 {w : World} {A : Option Addr} {n : Nat} {xs : List S83} (h : Kd.C k83 w A n xs) (i : Int) (h0 : 0 ≤ i) (h1 : i < n) : ∃ ad , A = some ad ∧ w.cell? (ad.add (i.toNat * 3)) = some (.bool (rd_T83 xs i).f0) ∧ w.cell? ⟨(ad.add (i.toNat * 3)).block, (ad.add (i.toNat * 3)).off + 1, none⟩ = some (.int .i64 (rd_T83 xs i).f1.f0) ∧ w.cell? ⟨(ad.add (i.toNat * 3)).block, (ad.add (i.toNat * 3)).off + 2, none⟩ = some (.int .i64 (rd_T83 xs i).f1.f1) := by
  obtain ⟨ad, c, e, _, hK, hc0⟩ := Kd.C_get h z83 i h0 h1
  have hc : ∀ j u, c[j]? = some u → w.cell? (ad.add (i.toNat * 3 + j)) = some u := hc0
  obtain rfl := k83_open hK
  exact ⟨ad, e, hc 0 _ rfl, by rw [← add_field _ _ 1 (by omega)]; exact hc 1 _ rfl, by rw [← add_field _ _ 2 (by omega)]; exact hc 2 _ rfl⟩
structure S88 where
  f0 : Int
  f1 : Bool
  f2 : Int
def z88 : S88 := ⟨(0 : Int), false, (0 : Int)⟩
def k88 : Kd S88 := Kd.iso (Kd.pair (Kd.int .i64) (Kd.pair Kd.bool (Kd.int .i64))) (fun x : S88 => (x.f0, x.f1, x.f2))
theorem k88_open {w : World} {x : S88} {cs : List Value} (h : k88.K w x cs) : cs = [.int .i64 x.f0, .bool x.f1, .int .i64 x.f2] := by
  obtain ⟨_, _, rfl, rfl, ⟨_, _, rfl, rfl, rfl⟩⟩ := h
  exact rfl
theorem k88_mkM (w : World) (base : Nat) (ok : Nat → Prop) (x : S88)  : k88.M w base ok x [.int .i64 x.f0, .bool x.f1, .int .i64 x.f2] := ⟨[.int .i64 x.f0], [.bool x.f1, .int .i64 x.f2], rfl, rfl, ⟨[.bool x.f1], [.int .i64 x.f2], rfl, rfl, rfl⟩⟩
def rd_T88 (xs : List S88) (i : Int) : S88 := xs.getD i.toNat z88
theorem at_T88 {w : World} {A : Option Addr} {n : Nat} {xs : List S88} (h : Kd.C k88 w A n xs) (i : Int) (h0 : 0 ≤ i) (h1 : i < n) : ∃ ad , A = some ad ∧ w.cell? (ad.add (i.toNat * 3)) = some (.int .i64 (rd_T88 xs i).f0) ∧ w.cell? ⟨(ad.add (i.toNat * 3)).block, (ad.add (i.toNat * 3)).off + 1, none⟩ = some (.bool (rd_T88 xs i).f1) ∧ w.cell? ⟨(ad.add (i.toNat * 3)).block, (ad.add (i.toNat * 3)).off + 2, none⟩ = some (.int .i64 (rd_T88 xs i).f2) := by
  obtain ⟨ad, c, e, _, hK, hc0⟩ := Kd.C_get h z88 i h0 h1
  have hc : ∀ j u, c[j]? = some u → w.cell? (ad.add (i.toNat * 3 + j)) = some u := hc0
  obtain rfl := k88_open hK
  exact ⟨ad, e, hc 0 _ rfl, by rw [← add_field _ _ 1 (by omega)]; exact hc 1 _ rfl, by rw [← add_field _ _ 2 (by omega)]; exact hc 2 _ rfl⟩
structure S153 where
  f0 : Int
  f1 : Int
  f2 : Int
  f3 : ByteArray
  f4 : Int
structure S137 where
  f0 : Int
  f1 : Int
  f2 : Int
  f3 : ByteArray
  f4 : Int
def laws_big.f (l0 : List Int) : Option (Bool) := some (decide ((l0.length : Int) > 1048576))
set_option maxHeartbeats 8000000 in
set_option maxRecDepth 100000 in
theorem laws_big.calls (A0 : Option Addr) (c0 : Nat) (l0 : List Int) (r : Bool) (w : World) (hr0 : Kd.C (Kd.int .u8) w A0 l0.length l0) (hc0 : l0.length ≤ c0) (h : laws_big.f l0 = some r) :
    Calls Try.prog 25 #[.slice A0 l0.length c0] w fun e w' => e = .returned (.bool r) ∧ Drawn0 w w' := by
  have HR0 := Aside0.mk hr0
  have HC0 := Aside0.mk hc0
  clear hr0 hc0
  have H : (some (decide ((l0.length : Int) > 1048576))) = some r := h
  clear h
  obtain rfl := Option.some.inj H
  go_enter Try.func25, Try.ntmps25
  go_wp2
  go_ret
  exact ⟨by first | rfl | (simp; done) | (simp [*]; done), by repeat (first | exact Drawn0.refl _ | apply Drawn0.step)⟩
def impl_in.f (a0 : Int) (a1 : Int) (a2 : Int) : Option (Bool) := if a1 ≤ a0 then (some (decide (a0 ≤ a2))) else (some false)
set_option maxHeartbeats 8000000 in
set_option maxRecDepth 100000 in
theorem impl_in.calls (a0 : Int) (a1 : Int) (a2 : Int) (r : Bool) (w : World) (h : impl_in.f a0 a1 a2 = some r) :
    Calls Try.prog 67 #[.int .i64 a0, .int .i64 a1, .int .i64 a2] w fun e w' => e = .returned (.bool r) ∧ Drawn0 w w' := by
  have H : (if a1 ≤ a0 then (some (decide (a0 ≤ a2))) else (some false)) = some r := h
  clear h
  by_cases c4 : a1 ≤ a0
  · rw [if_pos c4] at H
    have c4b0 : decide (a1 ≤ a0) = true := decide_eq_true c4
    clear c4
    obtain rfl := Option.some.inj H
    go_enter Try.func67, Try.ntmps67
    go_wp2
    go_ret
    exact ⟨by first | rfl | (simp; done) | (simp [*]; done), by repeat (first | exact Drawn0.refl _ | apply Drawn0.step)⟩
  · rw [if_neg c4] at H
    have c4b0 : decide (a1 ≤ a0) = false := decide_eq_false c4
    clear c4
    obtain rfl := Option.some.inj H
    go_enter Try.func67, Try.ntmps67
    go_wp2
    go_ret
    exact ⟨by first | rfl | (simp; done) | (simp [*]; done), by repeat (first | exact Drawn0.refl _ | apply Drawn0.step)⟩
def impl_IvalOk.f (a0_0 : Int) (a0_1 : Int) : Option (Bool) := if (-1000000000000) ≤ a0_0 then (if a0_0 ≤ a0_1 then (some (decide (a0_1 ≤ 1000000000000))) else (some false)) else (some false)
set_option maxHeartbeats 8000000 in
set_option maxRecDepth 100000 in
theorem impl_IvalOk.calls (a0_0 : Int) (a0_1 : Int) (r : Bool) (w : World) (h : impl_IvalOk.f a0_0 a0_1 = some r) :
    Calls Try.prog 94 #[.agg #[.int .i64 a0_0, .int .i64 a0_1]] w fun e w' => e = .returned (.bool r) ∧ Below w.heap.size w w' := by
  have hu81 := Try.underlying81
  have HB := Aside0.mk (Below.refl w.heap.size w)
  have H : (if (-1000000000000) ≤ a0_0 then (if a0_0 ≤ a0_1 then (some (decide (a0_1 ≤ 1000000000000))) else (some false)) else (some false)) = some r := h
  clear h
  by_cases c2 : (-1000000000000) ≤ a0_0
  · rw [if_pos c2] at H
    have c2b0 : decide ((-1000000000000) ≤ a0_0) = true := decide_eq_true c2
    clear c2
    by_cases c3 : a0_0 ≤ a0_1
    · rw [if_pos c3] at H
      have c3b0 : decide (a0_0 ≤ a0_1) = true := decide_eq_true c3
      clear c3
      obtain rfl := Option.some.inj H
      go_enter Try.func94, Try.ntmps94
      go_wp2_with (first | ((with_reducible refine gate_dst (N := 1) rfl ?_); refine box_event ?hg (N := 1) ?hd (cs := #[.int .i64 a0_0, .int .i64 a0_1]) (t := 81) ?hr ?_; (case hd => rfl); (case hg => rfl); (case hr => first | (go_simp; done) | (go_simp; rfl)); intro gb579 hg w4 hbox hb; have n0_ := Aside0.mk (below_step (hb_ HB.out) hb); have n1_ := Aside0.mk (hbox); have n2_ := Aside0.mk ((by rw [hg]; exact (below_size (hb_ HB.out)) : w.heap.size ≤ gb579)); have n3_ := Aside0.mk ((by rw [hg]; exact (below_size (hb_ HB.out)) : w.heap.size ≤ gb579)); clear HB; have HB := n0_; have BK579 := n1_; have GW579 := n2_; have GE579 := n3_; clear n0_ n1_ n2_ n3_; clear hb hbox hg; have hcz5_0 := bc_ BK579.out 0 (.int .i64 a0_0) rfl; have hcz5_1 := bc_ BK579.out 1 (.int .i64 a0_1) rfl; have hfz5_0 := blk_frozen BK579.out 0; have hfz5_1 := blk_frozen BK579.out 1))
      go_ret
      exact ⟨er_, hb1_ HB.out GE579.out⟩
    · rw [if_neg c3] at H
      have c3b0 : decide (a0_0 ≤ a0_1) = false := decide_eq_false c3
      clear c3
      obtain rfl := Option.some.inj H
      go_enter Try.func94, Try.ntmps94
      go_wp2_with (first | ((with_reducible refine gate_dst (N := 1) rfl ?_); refine box_event ?hg (N := 1) ?hd (cs := #[.int .i64 a0_0, .int .i64 a0_1]) (t := 81) ?hr ?_; (case hd => rfl); (case hg => rfl); (case hr => first | (go_simp; done) | (go_simp; rfl)); intro gb579 hg w6 hbox hb; have n0_ := Aside0.mk (below_step (hb_ HB.out) hb); have n1_ := Aside0.mk (hbox); have n2_ := Aside0.mk ((by rw [hg]; exact (below_size (hb_ HB.out)) : w.heap.size ≤ gb579)); have n3_ := Aside0.mk ((by rw [hg]; exact (below_size (hb_ HB.out)) : w.heap.size ≤ gb579)); clear HB; have HB := n0_; have BK579 := n1_; have GW579 := n2_; have GE579 := n3_; clear n0_ n1_ n2_ n3_; clear hb hbox hg; have hcz7_0 := bc_ BK579.out 0 (.int .i64 a0_0) rfl; have hcz7_1 := bc_ BK579.out 1 (.int .i64 a0_1) rfl; have hfz7_0 := blk_frozen BK579.out 0; have hfz7_1 := blk_frozen BK579.out 1))
      go_ret
      exact ⟨er_, hb1_ HB.out GE579.out⟩
  · rw [if_neg c2] at H
    have c2b0 : decide ((-1000000000000) ≤ a0_0) = false := decide_eq_false c2
    clear c2
    obtain rfl := Option.some.inj H
    go_enter Try.func94, Try.ntmps94
    go_wp2_with (first | ((with_reducible refine gate_dst (N := 1) rfl ?_); refine box_event ?hg (N := 1) ?hd (cs := #[.int .i64 a0_0, .int .i64 a0_1]) (t := 81) ?hr ?_; (case hd => rfl); (case hg => rfl); (case hr => first | (go_simp; done) | (go_simp; rfl)); intro gb579 hg w8 hbox hb; have n0_ := Aside0.mk (below_step (hb_ HB.out) hb); have n1_ := Aside0.mk (hbox); have n2_ := Aside0.mk ((by rw [hg]; exact (below_size (hb_ HB.out)) : w.heap.size ≤ gb579)); have n3_ := Aside0.mk ((by rw [hg]; exact (below_size (hb_ HB.out)) : w.heap.size ≤ gb579)); clear HB; have HB := n0_; have BK579 := n1_; have GW579 := n2_; have GE579 := n3_; clear n0_ n1_ n2_ n3_; clear hb hbox hg; have hcz9_0 := bc_ BK579.out 0 (.int .i64 a0_0) rfl; have hcz9_1 := bc_ BK579.out 1 (.int .i64 a0_1) rfl; have hfz9_0 := blk_frozen BK579.out 0; have hfz9_1 := blk_frozen BK579.out 1))
    go_ret
    exact ⟨er_, hb1_ HB.out GE579.out⟩
def impl_Holds.f (a0_0 : Int) (a0_1 : Int) (a1 : Int) : Option (Bool) := (impl_IvalOk.f a0_0 a0_1).bind fun t782 => (if t782 = true then ((impl_in.f a1 a0_0 a0_1).bind fun t783 => (some t783)) else (some false))
set_option maxHeartbeats 8000000 in
set_option maxRecDepth 100000 in
theorem impl_Holds.calls (a0_0 : Int) (a0_1 : Int) (a1 : Int) (r : Bool) (w : World) (h : impl_Holds.f a0_0 a0_1 a1 = some r) :
    Calls Try.prog 56 #[.agg #[.int .i64 a0_0, .int .i64 a0_1], .int .i64 a1] w fun e w' => e = .returned (.bool r) ∧ Below w.heap.size w w' := by
  have hu81 := Try.underlying81
  have HB := Aside0.mk (Below.refl w.heap.size w)
  have H : ((impl_IvalOk.f a0_0 a0_1).bind fun t782 => (if t782 = true then ((impl_in.f a1 a0_0 a0_1).bind fun t783 => (some t783)) else (some false))) = some r := h
  clear h
  replace H := Option.bind_eq_some_iff.mp H
  obtain ⟨t782, A30, H⟩ := H
  replace H : (if t782 = true then ((impl_in.f a1 a0_0 a0_1).bind fun t783 => (some t783)) else (some false)) = some r := H
  have A3 := Aside0.mk A30
  clear A30
  by_cases c4 : t782 = true
  · subst c4
    have H1 : ((impl_in.f a1 a0_0 a0_1).bind fun t783 => (some t783)) = some r := by rw [if_pos rfl] at H; exact H
    clear H
    have H := H1
    clear H1
    replace H := Option.bind_eq_some_iff.mp H
    obtain ⟨t783, A50, H⟩ := H
    replace H : (some t783) = some r := H
    have A5 := Aside0.mk A50
    clear A50
    obtain rfl := Option.some.inj H
    go_enter Try.func56, Try.ntmps56
    go_wp2_with (first | ((with_reducible refine gate_dst (N := 2) rfl ?_); refine box_event ?hg (N := 2) ?hd (cs := #[.int .i64 a0_0, .int .i64 a0_1]) (t := 81) ?hr ?_; (case hd => rfl); (case hg => rfl); (case hr => first | (go_simp; done) | (go_simp; rfl)); intro gb781 hg w6 hbox hb; have n0_ := Aside0.mk (below_step (hb_ HB.out) hb); have n1_ := Aside0.mk (hbox); have n2_ := Aside0.mk ((by rw [hg]; exact (below_size (hb_ HB.out)) : w.heap.size ≤ gb781)); have n3_ := Aside0.mk ((by rw [hg]; exact (below_size (hb_ HB.out)) : w.heap.size ≤ gb781)); clear HB; have HB := n0_; have BK781 := n1_; have GW781 := n2_; have GE781 := n3_; clear n0_ n1_ n2_ n3_; clear hb hbox hg; have hcz7_0 := bc_ BK781.out 0 (.int .i64 a0_0) rfl; have hcz7_1 := bc_ BK781.out 1 (.int .i64 a0_1) rfl; have hfz7_0 := blk_frozen BK781.out 0; have hfz7_1 := blk_frozen BK781.out 1) | ((with_reducible refine gate_callee (f := 94) rfl ?_); refine goesL_ (some 6) rfl rfl Try.func94 (by kernel_rfl) rfl #[.agg #[.int .i64 a0_0, .int .i64 a0_1]] rfl arr_ ?_; (with_reducible refine (impl_IvalOk.calls a0_0 a0_1 true _ A3.out).mono ?_); rintro e w8 ⟨rfl, hb⟩; refine ⟨_, rfl, ?_⟩; have n0_ := Aside0.mk (bb_ BK781.out hb); have n1_ := Aside0.mk (below_step (hb1_ HB.out GE781.out) hb); clear BK781; clear HB; have BK781 := n0_; have HB := n1_; clear n0_ n1_; (try clear hb); (try clear hb2); (try clear hk); (try clear hi); have hcz9_0 := bc_ BK781.out 0 (.int .i64 a0_0) rfl; have hcz9_1 := bc_ BK781.out 1 (.int .i64 a0_1) rfl; have hfz9_0 := blk_frozen BK781.out 0; have hfz9_1 := blk_frozen BK781.out 1) | (go_at_call 67; (with_reducible refine (impl_in.calls a1 a0_0 a0_1 t783 _ A5.out).mono ?_); rintro e w' ⟨rfl, ⟨nd, rfl⟩⟩))
    go_ret
    exact ⟨er_, hb1_ HB.out GE781.out⟩
  · replace c4 := Bool.eq_false_iff.mpr c4
    subst c4
    have H1 : (some false) = some r := by rw [if_neg (show ¬ (false = true) by decide)] at H; exact H
    clear H
    have H := H1
    clear H1
    obtain rfl := Option.some.inj H
    go_enter Try.func56, Try.ntmps56
    go_wp2_with (first | ((with_reducible refine gate_dst (N := 2) rfl ?_); refine box_event ?hg (N := 2) ?hd (cs := #[.int .i64 a0_0, .int .i64 a0_1]) (t := 81) ?hr ?_; (case hd => rfl); (case hg => rfl); (case hr => first | (go_simp; done) | (go_simp; rfl)); intro gb781 hg w10 hbox hb; have n0_ := Aside0.mk (below_step (hb_ HB.out) hb); have n1_ := Aside0.mk (hbox); have n2_ := Aside0.mk ((by rw [hg]; exact (below_size (hb_ HB.out)) : w.heap.size ≤ gb781)); have n3_ := Aside0.mk ((by rw [hg]; exact (below_size (hb_ HB.out)) : w.heap.size ≤ gb781)); clear HB; have HB := n0_; have BK781 := n1_; have GW781 := n2_; have GE781 := n3_; clear n0_ n1_ n2_ n3_; clear hb hbox hg; have hcz11_0 := bc_ BK781.out 0 (.int .i64 a0_0) rfl; have hcz11_1 := bc_ BK781.out 1 (.int .i64 a0_1) rfl; have hfz11_0 := blk_frozen BK781.out 0; have hfz11_1 := blk_frozen BK781.out 1) | ((with_reducible refine gate_callee (f := 94) rfl ?_); refine goesL_ (some 6) rfl rfl Try.func94 (by kernel_rfl) rfl #[.agg #[.int .i64 a0_0, .int .i64 a0_1]] rfl arr_ ?_; (with_reducible refine (impl_IvalOk.calls a0_0 a0_1 false _ A3.out).mono ?_); rintro e w12 ⟨rfl, hb⟩; refine ⟨_, rfl, ?_⟩; have n0_ := Aside0.mk (bb_ BK781.out hb); have n1_ := Aside0.mk (below_step (hb1_ HB.out GE781.out) hb); clear BK781; clear HB; have BK781 := n0_; have HB := n1_; clear n0_ n1_; (try clear hb); (try clear hb2); (try clear hk); (try clear hi)))
    go_ret
    exact ⟨er_, hb1_ HB.out GE781.out⟩
end Go.Proofs.Ytcgdnfaclbnflaa.P
namespace Go.Proofs.Ytcgdnfaclbnflaa.P
open Go.RowKit Go.Proofs.YtcgdnfaclbnflaaW.PrintWords Go.Proofs.YtcgdnfaclbnflaaW.PrintLast Go.Proofs.YtcgdnfaclbnflaaW.PrintMore
attribute [local go_sem] max2_int min2_int max_two min_two max_three min_three max_four min_four
set_option linter.unusedVariables false
set_option linter.unusedSimpArgs false
mutual
def impl_ReadsOk.j0 : Nat → List (S83) → List (S88) → Bool → Option (Bool)
  | 0, _, _, _ => none
  | k + 1, x0, x1, x20 => if x20 = true then (some false) else (impl_ReadsOk.l0 k x1 false 0 x0 (x0.length : Int) 0)
def impl_ReadsOk.l0 : Nat → List (S88) → Bool → Int → List (S83) → Int → Int → Option (Bool)
  | 0, _, _, _, _, _, _ => none
  | k + 1, x1, x5, x6, x21, x22, x23 => if x23 < x22 then (if 0 ≤ x23 then (if x23 < (x21.length : Int) then (if x23 < (x1.length : Int) then (if (rd_T83 x21 x23).f0 = true then ((impl_IvalOk.f ((rd_T83 x21 x23).f1.f0) ((rd_T83 x21 x23).f1.f1)).bind fun t810 => (impl_ReadsOk.j2 k x1 x5 x6 x21 x22 x23 (!t810) ((rd_T83 x21 x23).f0) ((rd_T83 x21 x23).f1.f0) ((rd_T83 x21 x23).f1.f1) ((rd_T88 x1 x23).f0) ((rd_T88 x1 x23).f1) ((rd_T88 x1 x23).f2))) else (impl_ReadsOk.j2 k x1 x5 x6 x21 x22 x23 false ((rd_T83 x21 x23).f0) ((rd_T83 x21 x23).f1.f0) ((rd_T83 x21 x23).f1.f1) ((rd_T88 x1 x23).f0) ((rd_T88 x1 x23).f1) ((rd_T88 x1 x23).f2))) else (none)) else (none)) else (none)) else (some true)
def impl_ReadsOk.j2 : Nat → List (S88) → Bool → Int → List (S83) → Int → Int → Bool → Bool → Int → Int → Int → Bool → Int → Option (Bool)
  | 0, _, _, _, _, _, _, _, _, _, _, _, _, _ => none
  | k + 1, x1, x5, x6, x21, x22, x23, x39, x808000, x808001, x808002, x810000, x810001, x810002 => if x39 = true then (some false) else (if x810002 = 2 then (if x808000 = true then (some false) else (if x5 = true then (some false) else (if x810000 = 0 then (if x810001 = false then (impl_ReadsOk.l0 k x1 x5 x6 x21 x22 (wrap64 (x23 + 1))) else (some false)) else (some false)))) else (if x808000 = true then (if x810001 = true then (if x810002 = 0 then (if x5 = true then (if x810000 = x6 then (if x810000 > x808002 then (impl_ReadsOk.l0 k x1 true x810000 x21 x22 (wrap64 (x23 + 1))) else (some false)) else (some false)) else (some false)) else (some false)) else (if x810002 = 0 then ((impl_Holds.f x808001 x808002 x810000).bind fun t811 => (if t811 = true then (if x5 = true then (if x810000 ≥ x6 then (impl_ReadsOk.l0 k x1 true x810000 x21 x22 (wrap64 (x23 + 1))) else (some false)) else (impl_ReadsOk.l0 k x1 true x810000 x21 x22 (wrap64 (x23 + 1)))) else (some false))) else (some false))) else (if x810002 = 0 then (if x810001 = true then (if x5 = true then (if x810000 = x6 then (impl_ReadsOk.l0 k x1 true x810000 x21 x22 (wrap64 (x23 + 1))) else (some false)) else (some false)) else (some false)) else (some false))))
end
def impl_ReadsOk.f (k : Nat) (l0 : List (S83)) (l1 : List (S88)) : Option (Bool) := if (l0.length : Int) > 200 then (impl_ReadsOk.j0 k l0 l1 true) else (impl_ReadsOk.j0 k l0 l1 ((l1.length : Int) != (l0.length : Int)))
set_option maxHeartbeats 8000000 in
set_option maxRecDepth 100000 in
theorem impl_ReadsOk.calls (k : Nat) (A0 : Option Addr) (c0 : Nat) (l0 : List (S83)) (A1 : Option Addr) (c1 : Nat) (l1 : List (S88)) (r : Bool) (w : World) (hr0 : Kd.C k83 w A0 l0.length l0) (hc0 : l0.length ≤ c0) (hr1 : Kd.C k88 w A1 l1.length l1) (hc1 : l1.length ≤ c1) (h : impl_ReadsOk.f k l0 l1 = some r) :
    Calls Try.prog 50 #[.slice A0 l0.length c0, .slice A1 l1.length c1] w fun e w' => e = .returned (.bool r) ∧ Below w.heap.size w w' := by
  have hu83 := Try.underlying83
  have hu88 := Try.underlying88
  have hu81 := Try.underlying81
  have HR0 := Aside0.mk hr0
  have HC0 := Aside0.mk hc0
  clear hr0 hc0
  have HR1 := Aside0.mk hr1
  have HC1 := Aside0.mk hc1
  clear hr1 hc1
  have HB := Aside0.mk (Below.refl w.heap.size w)
  have H : (if (l0.length : Int) > 200 then (impl_ReadsOk.j0 k l0 l1 true) else (impl_ReadsOk.j0 k l0 l1 ((l1.length : Int) != (l0.length : Int)))) = some r := h
  clear h
  have HC3 := Aside0.mk H
  clear H
  go_enter Try.func50, Try.ntmps50
  go_upto_region 1 with (fail)
  repeat (go_quiet (fail); go_upto_region 1 with (fail))
  go_cut [20] (fun v20 wc => ∃ (kq : Nat) (x20_2 : Bool), v20 = .bool x20_2 ∧ Aside0 (impl_ReadsOk.j0 kq l0 l1 x20_2 = some r) ∧ Aside0 (kq ≤ k) ∧ Aside0 (Below w.heap.size w wc))
  case first =>
    have H := HC3.out
    clear HC3
    by_cases c4 : (l0.length : Int) > 200
    · rw [if_pos c4] at H
      have c4b0 : decide (200 < (l0.length : Int)) = true := decide_eq_true c4
      have c4b1 : decide (200 < l0.length) = true := decide_eq_true (by omega)
      clear c4
      (first | rw [c4b0] | (simp only [i64_w, i32_w]; rw [c4b0]) | skip)
      have H' := Aside0.mk H
      clear H
      go_wp2
      repeat (go_quiet (fail); try go_wp2)
      go_meet
      case rel => exact ⟨_, (true), (by first | rfl | (simp; done) | (simp [*]; done)), H', ⟨by first | omega | exact Nat.le_refl _⟩, ⟨hb_ HB.out⟩⟩
    · rw [if_neg c4] at H
      have c4b0 : decide (200 < (l0.length : Int)) = false := decide_eq_false c4
      have c4b1 : decide (200 < l0.length) = false := decide_eq_false (by omega)
      clear c4
      (first | rw [c4b0] | (simp only [i64_w, i32_w]; rw [c4b0]) | skip)
      have H' := Aside0.mk H
      clear H
      go_wp2
      repeat (go_quiet (fail); try go_wp2)
      go_meet
      case rel => exact ⟨_, (((l1.length : Int) != (l0.length : Int))), (by first | rfl | (simp; done) | (simp [*]; done)), H', ⟨by first | omega | exact Nat.le_refl _⟩, ⟨hb_ HB.out⟩⟩
  case rest =>
    clear HC3
    try clear c1
    try clear p2
    try clear c4
    try clear c4b0
    try clear c4b1
    obtain ⟨kq, x20_2, rfl, HA, HJ2, HB⟩ := hcut
    cases kq with
    | zero => exact absurd HA.out (by simp [impl_ReadsOk.j0])
    | succ kj2 =>
      have H := HA.out
      clear HA
      simp only [impl_ReadsOk.j0] at H
      by_cases c5 : x20_2 = true
      · subst c5
        have H1 : (some false) = some r := by rw [if_pos rfl] at H; exact H
        clear H
        have H := H1
        clear H1
        obtain rfl := Option.some.inj H
        go_wp2
        repeat (go_quiet (fail); try go_wp2)
        go_ret
        exact ⟨er_, hb_ HB.out⟩
      · replace c5 := Bool.eq_false_iff.mpr c5
        subst c5
        have H1 : (impl_ReadsOk.l0 kj2 l1 false 0 l0 (l0.length : Int) 0) = some r := by rw [if_neg (show ¬ (false = true) by decide)] at H; exact H
        clear H
        have H := H1
        clear H1
        have H' := Aside0.mk H
        clear H
        go_wp2
        repeat (go_quiet (fail); try go_wp2)
        go_loopg [5, 6, 23] kj2 (fun kq v5 v6 v23 w' => ∃ (x5_2 : Bool) (x6_2 : Int) (x23_2 : Int), v5 = .bool x5_2 ∧ v6 = .int .i64 x6_2 ∧ v23 = .int .i64 x23_2 ∧ Aside0 (impl_ReadsOk.l0 kq l1 x5_2 x6_2 l0 (l0.length : Int) x23_2 = some r) ∧ Aside0 (kq ≤ kj2) ∧ Aside0 (Below w.heap.size w w'))
        case atStart => exact ⟨(false), (0), (0), (by first | rfl | (simp; done) | (simp [*]; done)), (by first | rfl | (simp; done) | (simp [*]; done)), (by first | rfl | (simp; done) | (simp [*]; done)), H', ⟨Nat.le_refl _⟩, ⟨hb_ HB.out⟩⟩
        case round =>
          clear H'
          try clear c1
          try clear p2
          try clear c4
          try clear c4b0
          try clear c4b1
          try clear c5
          try clear p2
          obtain ⟨x5_2, x6_2, x23_2, rfl, rfl, rfl, HA, HK2, HB⟩ := hrel
          cases gk with
          | zero => exact absurd HA.out (by simp [impl_ReadsOk.l0])
          | succ k2 =>
            have H := HA.out
            clear HA
            simp only [impl_ReadsOk.l0] at H
            by_cases c6 : x23_2 < (l0.length : Int)
            · rw [if_pos c6] at H
              have c6b0 : decide (x23_2 < (l0.length : Int)) = true := decide_eq_true c6
              clear c6
              by_cases c7 : 0 ≤ x23_2
              · rw [if_pos c7] at H
                have c7b0 : decide (0 ≤ x23_2) = true := decide_eq_true c7
                clear c7
                by_cases c8 : x23_2 < (l0.length : Int)
                · rw [if_pos c8] at H
                  have c8b0 : decide (x23_2 < (l0.length : Int)) = true := decide_eq_true c8
                  clear c8
                  by_cases c9 : x23_2 < (l1.length : Int)
                  · rw [if_pos c9] at H
                    have c9b0 : decide (x23_2 < (l1.length : Int)) = true := decide_eq_true c9
                    clear c9
                    have HC10 := Aside0.mk H
                    clear H
                    have p806 : 0 ≤ (x23_2 : Int) := of_decide_eq_true (by first | (with_reducible assumption) | assumption)
                    have q806 : x23_2 < (l0.length : Int) := of_decide_eq_true (by first | (with_reducible assumption) | assumption)
                    obtain ⟨ad806, e806, hx806_0, hx806_1, hx806_2⟩ := at_T83 HR0.out x23_2 p806 q806
                    cases e806
                    replace hx806_0 := (HB.out.cell (World.block_lt_of_cell? w _ hx806_0)).trans hx806_0
                    replace hx806_1 := (HB.out.cell (World.block_lt_of_cell? w _ hx806_1)).trans hx806_1
                    replace hx806_2 := (HB.out.cell (World.block_lt_of_cell? w _ hx806_2)).trans hx806_2
                    replace p806 := eq_true p806
                    replace q806 := eq_true q806
                    go_upto_region 8 with (first | ((with_reducible refine gate_dst (N := 8) rfl ?_); (try (refine gate_guard (by rfl) ?_; dsimp only)); refine box_event ?hg (N := 8) ?hd (cs := #[.bool false, .int .i64 0, .int .i64 0]) (t := 83) ?hr ?_; (case hd => rfl); (case hg => rfl); (case hr => first | (go_simp; done) | (go_simp; rfl)); intro gb807 hg w11 hbox hb; have n0_ := Aside0.mk (below_step (hb_ HB.out) hb); have n1_ := Aside0.mk (hbox); have n2_ := Aside0.mk ((by rw [hg]; exact (below_size (hb_ HB.out)) : w.heap.size ≤ gb807)); have n3_ := Aside0.mk ((by rw [hg]; exact (below_size (hb_ HB.out)) : w.heap.size ≤ gb807)); clear HB; have HB := n0_; have BK807 := n1_; have GW807 := n2_; have GE807 := n3_; clear n0_ n1_ n2_ n3_; clear hb hbox hg; have hcz12_0 := bc_ BK807.out 0 (.bool false) rfl; have hcz12_1 := bc_ BK807.out 1 (.int .i64 0) rfl; have hcz12_2 := bc_ BK807.out 2 (.int .i64 0) rfl; have hfz12_0 := blk_frozen BK807.out 0; have hfz12_1 := blk_frozen BK807.out 1; have hfz12_2 := blk_frozen BK807.out 2; have p808 : 0 ≤ (x23_2 : Int) := of_decide_eq_true (by first | (with_reducible assumption) | assumption); have q808 : x23_2 < (l1.length : Int) := of_decide_eq_true (by first | (with_reducible assumption) | assumption); obtain ⟨ad808, e808, hx808_0, hx808_1, hx808_2⟩ := at_T88 HR1.out x23_2 p808 q808; cases e808; have hn808_0 : ad808.block ≠ gb807 := Nat.ne_of_lt (Nat.lt_of_lt_of_le (by have := World.block_lt_of_cell? _ _ hx808_0; first | rwa [add_block] at this | exact this) GW807.out); have hn808_1 : ad808.block ≠ gb807 := Nat.ne_of_lt (Nat.lt_of_lt_of_le (by have := World.block_lt_of_cell? _ _ hx808_0; first | rwa [add_block] at this | exact this) GW807.out); have hn808_2 : ad808.block ≠ gb807 := Nat.ne_of_lt (Nat.lt_of_lt_of_le (by have := World.block_lt_of_cell? _ _ hx808_0; first | rwa [add_block] at this | exact this) GW807.out); replace hx808_0 := (HB.out.cell (World.block_lt_of_cell? w _ hx808_0)).trans hx808_0; replace hx808_1 := (HB.out.cell (World.block_lt_of_cell? w _ hx808_1)).trans hx808_1; replace hx808_2 := (HB.out.cell (World.block_lt_of_cell? w _ hx808_2)).trans hx808_2; replace hx808_0 := (cell_far (p := ⟨gb807, 0, none⟩) (by first | (rw [add_block]; exact hn808_0) | (show (Addr.add _ _).block ≠ _; rw [add_block]; exact hn808_0) | exact hn808_0) (.bool ((rd_T83 l0 x23_2).f0))).trans hx808_0; replace hx808_1 := (cell_far (p := ⟨gb807, 0, none⟩) (by first | (rw [add_block]; exact hn808_0) | (show (Addr.add _ _).block ≠ _; rw [add_block]; exact hn808_0) | exact hn808_0) (.bool ((rd_T83 l0 x23_2).f0))).trans hx808_1; replace hx808_2 := (cell_far (p := ⟨gb807, 0, none⟩) (by first | (rw [add_block]; exact hn808_0) | (show (Addr.add _ _).block ≠ _; rw [add_block]; exact hn808_0) | exact hn808_0) (.bool ((rd_T83 l0 x23_2).f0))).trans hx808_2; replace hx808_0 := (cell_far (p := ⟨gb807, 1, none⟩) (by first | (rw [add_block]; exact hn808_1) | (show (Addr.add _ _).block ≠ _; rw [add_block]; exact hn808_1) | exact hn808_1) (.int .i64 ((rd_T83 l0 x23_2).f1.f0))).trans hx808_0; replace hx808_1 := (cell_far (p := ⟨gb807, 1, none⟩) (by first | (rw [add_block]; exact hn808_1) | (show (Addr.add _ _).block ≠ _; rw [add_block]; exact hn808_1) | exact hn808_1) (.int .i64 ((rd_T83 l0 x23_2).f1.f0))).trans hx808_1; replace hx808_2 := (cell_far (p := ⟨gb807, 1, none⟩) (by first | (rw [add_block]; exact hn808_1) | (show (Addr.add _ _).block ≠ _; rw [add_block]; exact hn808_1) | exact hn808_1) (.int .i64 ((rd_T83 l0 x23_2).f1.f0))).trans hx808_2; replace hx808_0 := (cell_far (p := ⟨gb807, 2, none⟩) (by first | (rw [add_block]; exact hn808_2) | (show (Addr.add _ _).block ≠ _; rw [add_block]; exact hn808_2) | exact hn808_2) (.int .i64 ((rd_T83 l0 x23_2).f1.f1))).trans hx808_0; replace hx808_1 := (cell_far (p := ⟨gb807, 2, none⟩) (by first | (rw [add_block]; exact hn808_2) | (show (Addr.add _ _).block ≠ _; rw [add_block]; exact hn808_2) | exact hn808_2) (.int .i64 ((rd_T83 l0 x23_2).f1.f1))).trans hx808_1; replace hx808_2 := (cell_far (p := ⟨gb807, 2, none⟩) (by first | (rw [add_block]; exact hn808_2) | (show (Addr.add _ _).block ≠ _; rw [add_block]; exact hn808_2) | exact hn808_2) (.int .i64 ((rd_T83 l0 x23_2).f1.f1))).trans hx808_2; (try have hy808_0 := fun (n_ : Nat) => (show (((((w11.drewN n_).setCell ⟨gb807, 0, none⟩ (.bool ((rd_T83 l0 x23_2).f0))).setCell ⟨gb807, 1, none⟩ (.int .i64 ((rd_T83 l0 x23_2).f1.f0))).setCell ⟨gb807, 2, none⟩ (.int .i64 ((rd_T83 l0 x23_2).f1.f1)))).cell? _ = some _ from hx808_0)); (try have hy808_1 := fun (n_ : Nat) => (show (((((w11.drewN n_).setCell ⟨gb807, 0, none⟩ (.bool ((rd_T83 l0 x23_2).f0))).setCell ⟨gb807, 1, none⟩ (.int .i64 ((rd_T83 l0 x23_2).f1.f0))).setCell ⟨gb807, 2, none⟩ (.int .i64 ((rd_T83 l0 x23_2).f1.f1)))).cell? _ = some _ from hx808_1)); (try have hy808_2 := fun (n_ : Nat) => (show (((((w11.drewN n_).setCell ⟨gb807, 0, none⟩ (.bool ((rd_T83 l0 x23_2).f0))).setCell ⟨gb807, 1, none⟩ (.int .i64 ((rd_T83 l0 x23_2).f1.f0))).setCell ⟨gb807, 2, none⟩ (.int .i64 ((rd_T83 l0 x23_2).f1.f1)))).cell? _ = some _ from hx808_2)); clear hn808_0; clear hn808_1; clear hn808_2; replace p808 := eq_true p808; replace q808 := eq_true q808) | ((with_reducible refine gate_dst (N := 9) rfl ?_); (try (refine gate_guard (by rfl) ?_; dsimp only)); refine box_event ?hg (N := 9) ?hd (cs := #[.int .i64 0, .bool false, .int .i64 0]) (t := 88) ?hr ?_; (case hd => rfl); (case hg => rfl); (case hr => first | (go_simp; done) | (go_simp; rfl)); intro gb809 hg w13 hbox hb; have n0_ := Aside0.mk (blk_below (g := gb807) (o := .cells #[.bool ((rd_T83 l0 x23_2).f0), .int .i64 ((rd_T83 l0 x23_2).f1.f0), .int .i64 ((rd_T83 l0 x23_2).f1.f1)] 83 (0, 0)) (by (with_reducible repeat (first | refine blk_drewN ?_ _ | refine blk_drew ?_ | refine blk_alloc ?_ _)); refine blk_put (cs := #[.bool ((rd_T83 l0 x23_2).f0), .int .i64 ((rd_T83 l0 x23_2).f1.f0), .int .i64 0]) ?_ 2 _ rfl; (with_reducible repeat (first | refine blk_drewN ?_ _ | refine blk_drew ?_ | refine blk_alloc ?_ _)); refine blk_put (cs := #[.bool ((rd_T83 l0 x23_2).f0), .int .i64 0, .int .i64 0]) ?_ 1 _ rfl; (with_reducible repeat (first | refine blk_drewN ?_ _ | refine blk_drew ?_ | refine blk_alloc ?_ _)); refine blk_put (cs := #[.bool false, .int .i64 0, .int .i64 0]) ?_ 0 _ rfl; (with_reducible repeat (first | refine blk_drewN ?_ _ | refine blk_drew ?_ | refine blk_alloc ?_ _)); exact BK807.out) hb); have n1_ := Aside0.mk (below_step (hb1_ HB.out GE807.out) hb); have n2_ := Aside0.mk (hbox); have n3_ := Aside0.mk ((by rw [hg]; exact (below_size (hb1_ HB.out GE807.out)) : w.heap.size ≤ gb809)); have n4_ := Aside0.mk ((by rw [hg]; exact (below_size (hb1_ HB.out GE807.out)) : w.heap.size ≤ gb809)); have n5_ := Aside0.mk ((by rw [hg]; exact Nat.ne_of_lt (blk_lt (g := gb807) (o := .cells #[.bool ((rd_T83 l0 x23_2).f0), .int .i64 ((rd_T83 l0 x23_2).f1.f0), .int .i64 ((rd_T83 l0 x23_2).f1.f1)] 83 (0, 0)) (by (with_reducible repeat (first | refine blk_drewN ?_ _ | refine blk_drew ?_ | refine blk_alloc ?_ _)); refine blk_put (cs := #[.bool ((rd_T83 l0 x23_2).f0), .int .i64 ((rd_T83 l0 x23_2).f1.f0), .int .i64 0]) ?_ 2 _ rfl; (with_reducible repeat (first | refine blk_drewN ?_ _ | refine blk_drew ?_ | refine blk_alloc ?_ _)); refine blk_put (cs := #[.bool ((rd_T83 l0 x23_2).f0), .int .i64 0, .int .i64 0]) ?_ 1 _ rfl; (with_reducible repeat (first | refine blk_drewN ?_ _ | refine blk_drew ?_ | refine blk_alloc ?_ _)); refine blk_put (cs := #[.bool false, .int .i64 0, .int .i64 0]) ?_ 0 _ rfl; (with_reducible repeat (first | refine blk_drewN ?_ _ | refine blk_drew ?_ | refine blk_alloc ?_ _)); exact BK807.out)) : gb807 ≠ gb809)); have n6_ := Aside0.mk ((by rw [hg]; exact Nat.ne_of_gt (blk_lt (g := gb807) (o := .cells #[.bool ((rd_T83 l0 x23_2).f0), .int .i64 ((rd_T83 l0 x23_2).f1.f0), .int .i64 ((rd_T83 l0 x23_2).f1.f1)] 83 (0, 0)) (by (with_reducible repeat (first | refine blk_drewN ?_ _ | refine blk_drew ?_ | refine blk_alloc ?_ _)); refine blk_put (cs := #[.bool ((rd_T83 l0 x23_2).f0), .int .i64 ((rd_T83 l0 x23_2).f1.f0), .int .i64 0]) ?_ 2 _ rfl; (with_reducible repeat (first | refine blk_drewN ?_ _ | refine blk_drew ?_ | refine blk_alloc ?_ _)); refine blk_put (cs := #[.bool ((rd_T83 l0 x23_2).f0), .int .i64 0, .int .i64 0]) ?_ 1 _ rfl; (with_reducible repeat (first | refine blk_drewN ?_ _ | refine blk_drew ?_ | refine blk_alloc ?_ _)); refine blk_put (cs := #[.bool false, .int .i64 0, .int .i64 0]) ?_ 0 _ rfl; (with_reducible repeat (first | refine blk_drewN ?_ _ | refine blk_drew ?_ | refine blk_alloc ?_ _)); exact BK807.out)) : gb809 ≠ gb807)); clear BK807; clear HB; have BK807 := n0_; have HB := n1_; have BK809 := n2_; have GW809 := n3_; have GE809 := n4_; have NB807_809 := n5_; have NB809_807 := n6_; clear n0_ n1_ n2_ n3_ n4_ n5_ n6_; clear hb hbox hg; have hnb14 := NB809_807.out; have hnc14 := NB807_809.out; have hcz15_0 := bc_ BK809.out 0 (.int .i64 0) rfl; have hcz15_1 := bc_ BK809.out 1 (.bool false) rfl; have hcz15_2 := bc_ BK809.out 2 (.int .i64 0) rfl; have hfz15_0 := blk_frozen BK809.out 0; have hfz15_1 := blk_frozen BK809.out 1; have hfz15_2 := blk_frozen BK809.out 2))
                    repeat (go_quiet (first | ((with_reducible refine gate_dst (N := 8) rfl ?_); (try (refine gate_guard (by rfl) ?_; dsimp only)); refine box_event ?hg (N := 8) ?hd (cs := #[.bool false, .int .i64 0, .int .i64 0]) (t := 83) ?hr ?_; (case hd => rfl); (case hg => rfl); (case hr => first | (go_simp; done) | (go_simp; rfl)); intro gb807 hg w11 hbox hb; have n0_ := Aside0.mk (below_step (hb_ HB.out) hb); have n1_ := Aside0.mk (hbox); have n2_ := Aside0.mk ((by rw [hg]; exact (below_size (hb_ HB.out)) : w.heap.size ≤ gb807)); have n3_ := Aside0.mk ((by rw [hg]; exact (below_size (hb_ HB.out)) : w.heap.size ≤ gb807)); clear HB; have HB := n0_; have BK807 := n1_; have GW807 := n2_; have GE807 := n3_; clear n0_ n1_ n2_ n3_; clear hb hbox hg; have hcz12_0 := bc_ BK807.out 0 (.bool false) rfl; have hcz12_1 := bc_ BK807.out 1 (.int .i64 0) rfl; have hcz12_2 := bc_ BK807.out 2 (.int .i64 0) rfl; have hfz12_0 := blk_frozen BK807.out 0; have hfz12_1 := blk_frozen BK807.out 1; have hfz12_2 := blk_frozen BK807.out 2; have p808 : 0 ≤ (x23_2 : Int) := of_decide_eq_true (by first | (with_reducible assumption) | assumption); have q808 : x23_2 < (l1.length : Int) := of_decide_eq_true (by first | (with_reducible assumption) | assumption); obtain ⟨ad808, e808, hx808_0, hx808_1, hx808_2⟩ := at_T88 HR1.out x23_2 p808 q808; cases e808; have hn808_0 : ad808.block ≠ gb807 := Nat.ne_of_lt (Nat.lt_of_lt_of_le (by have := World.block_lt_of_cell? _ _ hx808_0; first | rwa [add_block] at this | exact this) GW807.out); have hn808_1 : ad808.block ≠ gb807 := Nat.ne_of_lt (Nat.lt_of_lt_of_le (by have := World.block_lt_of_cell? _ _ hx808_0; first | rwa [add_block] at this | exact this) GW807.out); have hn808_2 : ad808.block ≠ gb807 := Nat.ne_of_lt (Nat.lt_of_lt_of_le (by have := World.block_lt_of_cell? _ _ hx808_0; first | rwa [add_block] at this | exact this) GW807.out); replace hx808_0 := (HB.out.cell (World.block_lt_of_cell? w _ hx808_0)).trans hx808_0; replace hx808_1 := (HB.out.cell (World.block_lt_of_cell? w _ hx808_1)).trans hx808_1; replace hx808_2 := (HB.out.cell (World.block_lt_of_cell? w _ hx808_2)).trans hx808_2; replace hx808_0 := (cell_far (p := ⟨gb807, 0, none⟩) (by first | (rw [add_block]; exact hn808_0) | (show (Addr.add _ _).block ≠ _; rw [add_block]; exact hn808_0) | exact hn808_0) (.bool ((rd_T83 l0 x23_2).f0))).trans hx808_0; replace hx808_1 := (cell_far (p := ⟨gb807, 0, none⟩) (by first | (rw [add_block]; exact hn808_0) | (show (Addr.add _ _).block ≠ _; rw [add_block]; exact hn808_0) | exact hn808_0) (.bool ((rd_T83 l0 x23_2).f0))).trans hx808_1; replace hx808_2 := (cell_far (p := ⟨gb807, 0, none⟩) (by first | (rw [add_block]; exact hn808_0) | (show (Addr.add _ _).block ≠ _; rw [add_block]; exact hn808_0) | exact hn808_0) (.bool ((rd_T83 l0 x23_2).f0))).trans hx808_2; replace hx808_0 := (cell_far (p := ⟨gb807, 1, none⟩) (by first | (rw [add_block]; exact hn808_1) | (show (Addr.add _ _).block ≠ _; rw [add_block]; exact hn808_1) | exact hn808_1) (.int .i64 ((rd_T83 l0 x23_2).f1.f0))).trans hx808_0; replace hx808_1 := (cell_far (p := ⟨gb807, 1, none⟩) (by first | (rw [add_block]; exact hn808_1) | (show (Addr.add _ _).block ≠ _; rw [add_block]; exact hn808_1) | exact hn808_1) (.int .i64 ((rd_T83 l0 x23_2).f1.f0))).trans hx808_1; replace hx808_2 := (cell_far (p := ⟨gb807, 1, none⟩) (by first | (rw [add_block]; exact hn808_1) | (show (Addr.add _ _).block ≠ _; rw [add_block]; exact hn808_1) | exact hn808_1) (.int .i64 ((rd_T83 l0 x23_2).f1.f0))).trans hx808_2; replace hx808_0 := (cell_far (p := ⟨gb807, 2, none⟩) (by first | (rw [add_block]; exact hn808_2) | (show (Addr.add _ _).block ≠ _; rw [add_block]; exact hn808_2) | exact hn808_2) (.int .i64 ((rd_T83 l0 x23_2).f1.f1))).trans hx808_0; replace hx808_1 := (cell_far (p := ⟨gb807, 2, none⟩) (by first | (rw [add_block]; exact hn808_2) | (show (Addr.add _ _).block ≠ _; rw [add_block]; exact hn808_2) | exact hn808_2) (.int .i64 ((rd_T83 l0 x23_2).f1.f1))).trans hx808_1; replace hx808_2 := (cell_far (p := ⟨gb807, 2, none⟩) (by first | (rw [add_block]; exact hn808_2) | (show (Addr.add _ _).block ≠ _; rw [add_block]; exact hn808_2) | exact hn808_2) (.int .i64 ((rd_T83 l0 x23_2).f1.f1))).trans hx808_2; (try have hy808_0 := fun (n_ : Nat) => (show (((((w11.drewN n_).setCell ⟨gb807, 0, none⟩ (.bool ((rd_T83 l0 x23_2).f0))).setCell ⟨gb807, 1, none⟩ (.int .i64 ((rd_T83 l0 x23_2).f1.f0))).setCell ⟨gb807, 2, none⟩ (.int .i64 ((rd_T83 l0 x23_2).f1.f1)))).cell? _ = some _ from hx808_0)); (try have hy808_1 := fun (n_ : Nat) => (show (((((w11.drewN n_).setCell ⟨gb807, 0, none⟩ (.bool ((rd_T83 l0 x23_2).f0))).setCell ⟨gb807, 1, none⟩ (.int .i64 ((rd_T83 l0 x23_2).f1.f0))).setCell ⟨gb807, 2, none⟩ (.int .i64 ((rd_T83 l0 x23_2).f1.f1)))).cell? _ = some _ from hx808_1)); (try have hy808_2 := fun (n_ : Nat) => (show (((((w11.drewN n_).setCell ⟨gb807, 0, none⟩ (.bool ((rd_T83 l0 x23_2).f0))).setCell ⟨gb807, 1, none⟩ (.int .i64 ((rd_T83 l0 x23_2).f1.f0))).setCell ⟨gb807, 2, none⟩ (.int .i64 ((rd_T83 l0 x23_2).f1.f1)))).cell? _ = some _ from hx808_2)); clear hn808_0; clear hn808_1; clear hn808_2; replace p808 := eq_true p808; replace q808 := eq_true q808) | ((with_reducible refine gate_dst (N := 9) rfl ?_); (try (refine gate_guard (by rfl) ?_; dsimp only)); refine box_event ?hg (N := 9) ?hd (cs := #[.int .i64 0, .bool false, .int .i64 0]) (t := 88) ?hr ?_; (case hd => rfl); (case hg => rfl); (case hr => first | (go_simp; done) | (go_simp; rfl)); intro gb809 hg w13 hbox hb; have n0_ := Aside0.mk (blk_below (g := gb807) (o := .cells #[.bool ((rd_T83 l0 x23_2).f0), .int .i64 ((rd_T83 l0 x23_2).f1.f0), .int .i64 ((rd_T83 l0 x23_2).f1.f1)] 83 (0, 0)) (by (with_reducible repeat (first | refine blk_drewN ?_ _ | refine blk_drew ?_ | refine blk_alloc ?_ _)); refine blk_put (cs := #[.bool ((rd_T83 l0 x23_2).f0), .int .i64 ((rd_T83 l0 x23_2).f1.f0), .int .i64 0]) ?_ 2 _ rfl; (with_reducible repeat (first | refine blk_drewN ?_ _ | refine blk_drew ?_ | refine blk_alloc ?_ _)); refine blk_put (cs := #[.bool ((rd_T83 l0 x23_2).f0), .int .i64 0, .int .i64 0]) ?_ 1 _ rfl; (with_reducible repeat (first | refine blk_drewN ?_ _ | refine blk_drew ?_ | refine blk_alloc ?_ _)); refine blk_put (cs := #[.bool false, .int .i64 0, .int .i64 0]) ?_ 0 _ rfl; (with_reducible repeat (first | refine blk_drewN ?_ _ | refine blk_drew ?_ | refine blk_alloc ?_ _)); exact BK807.out) hb); have n1_ := Aside0.mk (below_step (hb1_ HB.out GE807.out) hb); have n2_ := Aside0.mk (hbox); have n3_ := Aside0.mk ((by rw [hg]; exact (below_size (hb1_ HB.out GE807.out)) : w.heap.size ≤ gb809)); have n4_ := Aside0.mk ((by rw [hg]; exact (below_size (hb1_ HB.out GE807.out)) : w.heap.size ≤ gb809)); have n5_ := Aside0.mk ((by rw [hg]; exact Nat.ne_of_lt (blk_lt (g := gb807) (o := .cells #[.bool ((rd_T83 l0 x23_2).f0), .int .i64 ((rd_T83 l0 x23_2).f1.f0), .int .i64 ((rd_T83 l0 x23_2).f1.f1)] 83 (0, 0)) (by (with_reducible repeat (first | refine blk_drewN ?_ _ | refine blk_drew ?_ | refine blk_alloc ?_ _)); refine blk_put (cs := #[.bool ((rd_T83 l0 x23_2).f0), .int .i64 ((rd_T83 l0 x23_2).f1.f0), .int .i64 0]) ?_ 2 _ rfl; (with_reducible repeat (first | refine blk_drewN ?_ _ | refine blk_drew ?_ | refine blk_alloc ?_ _)); refine blk_put (cs := #[.bool ((rd_T83 l0 x23_2).f0), .int .i64 0, .int .i64 0]) ?_ 1 _ rfl; (with_reducible repeat (first | refine blk_drewN ?_ _ | refine blk_drew ?_ | refine blk_alloc ?_ _)); refine blk_put (cs := #[.bool false, .int .i64 0, .int .i64 0]) ?_ 0 _ rfl; (with_reducible repeat (first | refine blk_drewN ?_ _ | refine blk_drew ?_ | refine blk_alloc ?_ _)); exact BK807.out)) : gb807 ≠ gb809)); have n6_ := Aside0.mk ((by rw [hg]; exact Nat.ne_of_gt (blk_lt (g := gb807) (o := .cells #[.bool ((rd_T83 l0 x23_2).f0), .int .i64 ((rd_T83 l0 x23_2).f1.f0), .int .i64 ((rd_T83 l0 x23_2).f1.f1)] 83 (0, 0)) (by (with_reducible repeat (first | refine blk_drewN ?_ _ | refine blk_drew ?_ | refine blk_alloc ?_ _)); refine blk_put (cs := #[.bool ((rd_T83 l0 x23_2).f0), .int .i64 ((rd_T83 l0 x23_2).f1.f0), .int .i64 0]) ?_ 2 _ rfl; (with_reducible repeat (first | refine blk_drewN ?_ _ | refine blk_drew ?_ | refine blk_alloc ?_ _)); refine blk_put (cs := #[.bool ((rd_T83 l0 x23_2).f0), .int .i64 0, .int .i64 0]) ?_ 1 _ rfl; (with_reducible repeat (first | refine blk_drewN ?_ _ | refine blk_drew ?_ | refine blk_alloc ?_ _)); refine blk_put (cs := #[.bool false, .int .i64 0, .int .i64 0]) ?_ 0 _ rfl; (with_reducible repeat (first | refine blk_drewN ?_ _ | refine blk_drew ?_ | refine blk_alloc ?_ _)); exact BK807.out)) : gb809 ≠ gb807)); clear BK807; clear HB; have BK807 := n0_; have HB := n1_; have BK809 := n2_; have GW809 := n3_; have GE809 := n4_; have NB807_809 := n5_; have NB809_807 := n6_; clear n0_ n1_ n2_ n3_ n4_ n5_ n6_; clear hb hbox hg; have hnb14 := NB809_807.out; have hnc14 := NB807_809.out; have hcz15_0 := bc_ BK809.out 0 (.int .i64 0) rfl; have hcz15_1 := bc_ BK809.out 1 (.bool false) rfl; have hcz15_2 := bc_ BK809.out 2 (.int .i64 0) rfl; have hfz15_0 := blk_frozen BK809.out 0; have hfz15_1 := blk_frozen BK809.out 1; have hfz15_2 := blk_frozen BK809.out 2)); go_upto_region 8 with (first | ((with_reducible refine gate_dst (N := 8) rfl ?_); (try (refine gate_guard (by rfl) ?_; dsimp only)); refine box_event ?hg (N := 8) ?hd (cs := #[.bool false, .int .i64 0, .int .i64 0]) (t := 83) ?hr ?_; (case hd => rfl); (case hg => rfl); (case hr => first | (go_simp; done) | (go_simp; rfl)); intro gb807 hg w11 hbox hb; have n0_ := Aside0.mk (below_step (hb_ HB.out) hb); have n1_ := Aside0.mk (hbox); have n2_ := Aside0.mk ((by rw [hg]; exact (below_size (hb_ HB.out)) : w.heap.size ≤ gb807)); have n3_ := Aside0.mk ((by rw [hg]; exact (below_size (hb_ HB.out)) : w.heap.size ≤ gb807)); clear HB; have HB := n0_; have BK807 := n1_; have GW807 := n2_; have GE807 := n3_; clear n0_ n1_ n2_ n3_; clear hb hbox hg; have hcz12_0 := bc_ BK807.out 0 (.bool false) rfl; have hcz12_1 := bc_ BK807.out 1 (.int .i64 0) rfl; have hcz12_2 := bc_ BK807.out 2 (.int .i64 0) rfl; have hfz12_0 := blk_frozen BK807.out 0; have hfz12_1 := blk_frozen BK807.out 1; have hfz12_2 := blk_frozen BK807.out 2; have p808 : 0 ≤ (x23_2 : Int) := of_decide_eq_true (by first | (with_reducible assumption) | assumption); have q808 : x23_2 < (l1.length : Int) := of_decide_eq_true (by first | (with_reducible assumption) | assumption); obtain ⟨ad808, e808, hx808_0, hx808_1, hx808_2⟩ := at_T88 HR1.out x23_2 p808 q808; cases e808; have hn808_0 : ad808.block ≠ gb807 := Nat.ne_of_lt (Nat.lt_of_lt_of_le (by have := World.block_lt_of_cell? _ _ hx808_0; first | rwa [add_block] at this | exact this) GW807.out); have hn808_1 : ad808.block ≠ gb807 := Nat.ne_of_lt (Nat.lt_of_lt_of_le (by have := World.block_lt_of_cell? _ _ hx808_0; first | rwa [add_block] at this | exact this) GW807.out); have hn808_2 : ad808.block ≠ gb807 := Nat.ne_of_lt (Nat.lt_of_lt_of_le (by have := World.block_lt_of_cell? _ _ hx808_0; first | rwa [add_block] at this | exact this) GW807.out); replace hx808_0 := (HB.out.cell (World.block_lt_of_cell? w _ hx808_0)).trans hx808_0; replace hx808_1 := (HB.out.cell (World.block_lt_of_cell? w _ hx808_1)).trans hx808_1; replace hx808_2 := (HB.out.cell (World.block_lt_of_cell? w _ hx808_2)).trans hx808_2; replace hx808_0 := (cell_far (p := ⟨gb807, 0, none⟩) (by first | (rw [add_block]; exact hn808_0) | (show (Addr.add _ _).block ≠ _; rw [add_block]; exact hn808_0) | exact hn808_0) (.bool ((rd_T83 l0 x23_2).f0))).trans hx808_0; replace hx808_1 := (cell_far (p := ⟨gb807, 0, none⟩) (by first | (rw [add_block]; exact hn808_0) | (show (Addr.add _ _).block ≠ _; rw [add_block]; exact hn808_0) | exact hn808_0) (.bool ((rd_T83 l0 x23_2).f0))).trans hx808_1; replace hx808_2 := (cell_far (p := ⟨gb807, 0, none⟩) (by first | (rw [add_block]; exact hn808_0) | (show (Addr.add _ _).block ≠ _; rw [add_block]; exact hn808_0) | exact hn808_0) (.bool ((rd_T83 l0 x23_2).f0))).trans hx808_2; replace hx808_0 := (cell_far (p := ⟨gb807, 1, none⟩) (by first | (rw [add_block]; exact hn808_1) | (show (Addr.add _ _).block ≠ _; rw [add_block]; exact hn808_1) | exact hn808_1) (.int .i64 ((rd_T83 l0 x23_2).f1.f0))).trans hx808_0; replace hx808_1 := (cell_far (p := ⟨gb807, 1, none⟩) (by first | (rw [add_block]; exact hn808_1) | (show (Addr.add _ _).block ≠ _; rw [add_block]; exact hn808_1) | exact hn808_1) (.int .i64 ((rd_T83 l0 x23_2).f1.f0))).trans hx808_1; replace hx808_2 := (cell_far (p := ⟨gb807, 1, none⟩) (by first | (rw [add_block]; exact hn808_1) | (show (Addr.add _ _).block ≠ _; rw [add_block]; exact hn808_1) | exact hn808_1) (.int .i64 ((rd_T83 l0 x23_2).f1.f0))).trans hx808_2; replace hx808_0 := (cell_far (p := ⟨gb807, 2, none⟩) (by first | (rw [add_block]; exact hn808_2) | (show (Addr.add _ _).block ≠ _; rw [add_block]; exact hn808_2) | exact hn808_2) (.int .i64 ((rd_T83 l0 x23_2).f1.f1))).trans hx808_0; replace hx808_1 := (cell_far (p := ⟨gb807, 2, none⟩) (by first | (rw [add_block]; exact hn808_2) | (show (Addr.add _ _).block ≠ _; rw [add_block]; exact hn808_2) | exact hn808_2) (.int .i64 ((rd_T83 l0 x23_2).f1.f1))).trans hx808_1; replace hx808_2 := (cell_far (p := ⟨gb807, 2, none⟩) (by first | (rw [add_block]; exact hn808_2) | (show (Addr.add _ _).block ≠ _; rw [add_block]; exact hn808_2) | exact hn808_2) (.int .i64 ((rd_T83 l0 x23_2).f1.f1))).trans hx808_2; (try have hy808_0 := fun (n_ : Nat) => (show (((((w11.drewN n_).setCell ⟨gb807, 0, none⟩ (.bool ((rd_T83 l0 x23_2).f0))).setCell ⟨gb807, 1, none⟩ (.int .i64 ((rd_T83 l0 x23_2).f1.f0))).setCell ⟨gb807, 2, none⟩ (.int .i64 ((rd_T83 l0 x23_2).f1.f1)))).cell? _ = some _ from hx808_0)); (try have hy808_1 := fun (n_ : Nat) => (show (((((w11.drewN n_).setCell ⟨gb807, 0, none⟩ (.bool ((rd_T83 l0 x23_2).f0))).setCell ⟨gb807, 1, none⟩ (.int .i64 ((rd_T83 l0 x23_2).f1.f0))).setCell ⟨gb807, 2, none⟩ (.int .i64 ((rd_T83 l0 x23_2).f1.f1)))).cell? _ = some _ from hx808_1)); (try have hy808_2 := fun (n_ : Nat) => (show (((((w11.drewN n_).setCell ⟨gb807, 0, none⟩ (.bool ((rd_T83 l0 x23_2).f0))).setCell ⟨gb807, 1, none⟩ (.int .i64 ((rd_T83 l0 x23_2).f1.f0))).setCell ⟨gb807, 2, none⟩ (.int .i64 ((rd_T83 l0 x23_2).f1.f1)))).cell? _ = some _ from hx808_2)); clear hn808_0; clear hn808_1; clear hn808_2; replace p808 := eq_true p808; replace q808 := eq_true q808) | ((with_reducible refine gate_dst (N := 9) rfl ?_); (try (refine gate_guard (by rfl) ?_; dsimp only)); refine box_event ?hg (N := 9) ?hd (cs := #[.int .i64 0, .bool false, .int .i64 0]) (t := 88) ?hr ?_; (case hd => rfl); (case hg => rfl); (case hr => first | (go_simp; done) | (go_simp; rfl)); intro gb809 hg w13 hbox hb; have n0_ := Aside0.mk (blk_below (g := gb807) (o := .cells #[.bool ((rd_T83 l0 x23_2).f0), .int .i64 ((rd_T83 l0 x23_2).f1.f0), .int .i64 ((rd_T83 l0 x23_2).f1.f1)] 83 (0, 0)) (by (with_reducible repeat (first | refine blk_drewN ?_ _ | refine blk_drew ?_ | refine blk_alloc ?_ _)); refine blk_put (cs := #[.bool ((rd_T83 l0 x23_2).f0), .int .i64 ((rd_T83 l0 x23_2).f1.f0), .int .i64 0]) ?_ 2 _ rfl; (with_reducible repeat (first | refine blk_drewN ?_ _ | refine blk_drew ?_ | refine blk_alloc ?_ _)); refine blk_put (cs := #[.bool ((rd_T83 l0 x23_2).f0), .int .i64 0, .int .i64 0]) ?_ 1 _ rfl; (with_reducible repeat (first | refine blk_drewN ?_ _ | refine blk_drew ?_ | refine blk_alloc ?_ _)); refine blk_put (cs := #[.bool false, .int .i64 0, .int .i64 0]) ?_ 0 _ rfl; (with_reducible repeat (first | refine blk_drewN ?_ _ | refine blk_drew ?_ | refine blk_alloc ?_ _)); exact BK807.out) hb); have n1_ := Aside0.mk (below_step (hb1_ HB.out GE807.out) hb); have n2_ := Aside0.mk (hbox); have n3_ := Aside0.mk ((by rw [hg]; exact (below_size (hb1_ HB.out GE807.out)) : w.heap.size ≤ gb809)); have n4_ := Aside0.mk ((by rw [hg]; exact (below_size (hb1_ HB.out GE807.out)) : w.heap.size ≤ gb809)); have n5_ := Aside0.mk ((by rw [hg]; exact Nat.ne_of_lt (blk_lt (g := gb807) (o := .cells #[.bool ((rd_T83 l0 x23_2).f0), .int .i64 ((rd_T83 l0 x23_2).f1.f0), .int .i64 ((rd_T83 l0 x23_2).f1.f1)] 83 (0, 0)) (by (with_reducible repeat (first | refine blk_drewN ?_ _ | refine blk_drew ?_ | refine blk_alloc ?_ _)); refine blk_put (cs := #[.bool ((rd_T83 l0 x23_2).f0), .int .i64 ((rd_T83 l0 x23_2).f1.f0), .int .i64 0]) ?_ 2 _ rfl; (with_reducible repeat (first | refine blk_drewN ?_ _ | refine blk_drew ?_ | refine blk_alloc ?_ _)); refine blk_put (cs := #[.bool ((rd_T83 l0 x23_2).f0), .int .i64 0, .int .i64 0]) ?_ 1 _ rfl; (with_reducible repeat (first | refine blk_drewN ?_ _ | refine blk_drew ?_ | refine blk_alloc ?_ _)); refine blk_put (cs := #[.bool false, .int .i64 0, .int .i64 0]) ?_ 0 _ rfl; (with_reducible repeat (first | refine blk_drewN ?_ _ | refine blk_drew ?_ | refine blk_alloc ?_ _)); exact BK807.out)) : gb807 ≠ gb809)); have n6_ := Aside0.mk ((by rw [hg]; exact Nat.ne_of_gt (blk_lt (g := gb807) (o := .cells #[.bool ((rd_T83 l0 x23_2).f0), .int .i64 ((rd_T83 l0 x23_2).f1.f0), .int .i64 ((rd_T83 l0 x23_2).f1.f1)] 83 (0, 0)) (by (with_reducible repeat (first | refine blk_drewN ?_ _ | refine blk_drew ?_ | refine blk_alloc ?_ _)); refine blk_put (cs := #[.bool ((rd_T83 l0 x23_2).f0), .int .i64 ((rd_T83 l0 x23_2).f1.f0), .int .i64 0]) ?_ 2 _ rfl; (with_reducible repeat (first | refine blk_drewN ?_ _ | refine blk_drew ?_ | refine blk_alloc ?_ _)); refine blk_put (cs := #[.bool ((rd_T83 l0 x23_2).f0), .int .i64 0, .int .i64 0]) ?_ 1 _ rfl; (with_reducible repeat (first | refine blk_drewN ?_ _ | refine blk_drew ?_ | refine blk_alloc ?_ _)); refine blk_put (cs := #[.bool false, .int .i64 0, .int .i64 0]) ?_ 0 _ rfl; (with_reducible repeat (first | refine blk_drewN ?_ _ | refine blk_drew ?_ | refine blk_alloc ?_ _)); exact BK807.out)) : gb809 ≠ gb807)); clear BK807; clear HB; have BK807 := n0_; have HB := n1_; have BK809 := n2_; have GW809 := n3_; have GE809 := n4_; have NB807_809 := n5_; have NB809_807 := n6_; clear n0_ n1_ n2_ n3_ n4_ n5_ n6_; clear hb hbox hg; have hnb14 := NB809_807.out; have hnc14 := NB807_809.out; have hcz15_0 := bc_ BK809.out 0 (.int .i64 0) rfl; have hcz15_1 := bc_ BK809.out 1 (.bool false) rfl; have hcz15_2 := bc_ BK809.out 2 (.int .i64 0) rfl; have hfz15_0 := blk_frozen BK809.out 0; have hfz15_1 := blk_frozen BK809.out 1; have hfz15_2 := blk_frozen BK809.out 2)))
                    (try simp only [Act.put, List.setIfInBounds_toArray, List.set_cons_zero, List.set_cons_succ])
                    go_cut [39] (fun v39 wc => ∃ (kq : Nat) (x39_9 : Bool), v39 = .bool x39_9 ∧ Aside0 (impl_ReadsOk.j2 kq l1 x5_2 x6_2 l0 (l0.length : Int) x23_2 x39_9 ((rd_T83 l0 x23_2).f0) ((rd_T83 l0 x23_2).f1.f0) ((rd_T83 l0 x23_2).f1.f1) ((rd_T88 l1 x23_2).f0) ((rd_T88 l1 x23_2).f1) ((rd_T88 l1 x23_2).f2) = some r) ∧ Aside0 (kq ≤ k2) ∧ Aside0 (wc.heap[gb807]? = some (.cells #[.bool ((rd_T83 l0 x23_2).f0), .int .i64 ((rd_T83 l0 x23_2).f1.f0), .int .i64 ((rd_T83 l0 x23_2).f1.f1)] 83 (0, 0))) ∧ Aside0 (wc.heap[gb809]? = some (.cells #[.int .i64 ((rd_T88 l1 x23_2).f0), .bool ((rd_T88 l1 x23_2).f1), .int .i64 ((rd_T88 l1 x23_2).f2)] 88 (0, 0))) ∧ Aside0 (Below w.heap.size w wc))
                    case first =>
                      have H := HC10.out
                      clear HC10
                      obtain ⟨bq16, hbq16⟩ : ∃ b_ : Bool, b_ = ((rd_T83 l0 x23_2).f0) := ⟨_, rfl⟩
                      replace H : (if bq16 = true then ((impl_IvalOk.f ((rd_T83 l0 x23_2).f1.f0) ((rd_T83 l0 x23_2).f1.f1)).bind fun t810 => (impl_ReadsOk.j2 k2 l1 x5_2 x6_2 l0 (l0.length : Int) x23_2 (!t810) bq16 ((rd_T83 l0 x23_2).f1.f0) ((rd_T83 l0 x23_2).f1.f1) ((rd_T88 l1 x23_2).f0) ((rd_T88 l1 x23_2).f1) ((rd_T88 l1 x23_2).f2))) else (impl_ReadsOk.j2 k2 l1 x5_2 x6_2 l0 (l0.length : Int) x23_2 false bq16 ((rd_T83 l0 x23_2).f1.f0) ((rd_T83 l0 x23_2).f1.f1) ((rd_T88 l1 x23_2).f0) ((rd_T88 l1 x23_2).f1) ((rd_T88 l1 x23_2).f2))) = some r := by rw [← hbq16] at H; exact H
                      have Nbq16 := Aside0.mk hbq16
                      clear hbq16
                      (try rw [← Nbq16.out])
                      (try (have n9_ := Aside0.mk (by rw [← Nbq16.out] at BK807; exact BK807.out); clear BK807; have BK807 := n9_; clear n9_))
                      (try (have n9_ := Aside0.mk (by rw [← Nbq16.out] at BK809; exact BK809.out); clear BK809; have BK809 := n9_; clear n9_))
                      by_cases c17 : bq16 = true
                      · subst c17
                        have H1 : ((impl_IvalOk.f ((rd_T83 l0 x23_2).f1.f0) ((rd_T83 l0 x23_2).f1.f1)).bind fun t810 => (impl_ReadsOk.j2 k2 l1 x5_2 x6_2 l0 (l0.length : Int) x23_2 (!t810) true ((rd_T83 l0 x23_2).f1.f0) ((rd_T83 l0 x23_2).f1.f1) ((rd_T88 l1 x23_2).f0) ((rd_T88 l1 x23_2).f1) ((rd_T88 l1 x23_2).f2))) = some r := by rw [if_pos rfl] at H; exact H
                        clear H
                        have H := H1
                        clear H1
                        replace H := Option.bind_eq_some_iff.mp H
                        obtain ⟨t810, A180, H⟩ := H
                        replace H : (impl_ReadsOk.j2 k2 l1 x5_2 x6_2 l0 (l0.length : Int) x23_2 (!t810) true ((rd_T83 l0 x23_2).f1.f0) ((rd_T83 l0 x23_2).f1.f1) ((rd_T88 l1 x23_2).f0) ((rd_T88 l1 x23_2).f1) ((rd_T88 l1 x23_2).f2)) = some r := H
                        have A18 := Aside0.mk A180
                        clear A180
                        have H' := Aside0.mk H
                        clear H
                        have hnb19 := NB807_809.out
                        have hnc19 := NB809_807.out
                        have hcz20_0 := bc_ BK807.out 0 (.bool true) rfl
                        have hcz20_1 : w13.cell? ⟨gb807, 1, none⟩ = some (.int .i64 ((rd_T83 l0 x23_2).f1.f0)) := (blk_cell BK807.out 1).trans rfl
                        have hcz20_2 : w13.cell? ⟨gb807, 2, none⟩ = some (.int .i64 ((rd_T83 l0 x23_2).f1.f1)) := (blk_cell BK807.out 2).trans rfl
                        have hfz20_0 := blk_frozen BK807.out 0
                        have hfz20_1 := blk_frozen BK807.out 1
                        have hfz20_2 := blk_frozen BK807.out 2
                        go_wp2_with (first | (go_at_call 94; (with_reducible refine (impl_IvalOk.calls ((rd_T83 l0 x23_2).f1.f0) ((rd_T83 l0 x23_2).f1.f1) t810 _ A18.out).mono ?_); rintro e w21 ⟨rfl, hb⟩; have n0_ := Aside0.mk (blk_below (g := gb807) (o := .cells #[.bool true, .int .i64 ((rd_T83 l0 x23_2).f1.f0), .int .i64 ((rd_T83 l0 x23_2).f1.f1)] 83 (0, 0)) (by (with_reducible repeat (first | refine blk_drewN ?_ _ | refine blk_drew ?_ | refine blk_alloc ?_ _)); refine blk_far ?_ NB807_809.out _; (with_reducible repeat (first | refine blk_drewN ?_ _ | refine blk_drew ?_ | refine blk_alloc ?_ _)); refine blk_far ?_ NB807_809.out _; (with_reducible repeat (first | refine blk_drewN ?_ _ | refine blk_drew ?_ | refine blk_alloc ?_ _)); refine blk_far ?_ NB807_809.out _; (with_reducible repeat (first | refine blk_drewN ?_ _ | refine blk_drew ?_ | refine blk_alloc ?_ _)); exact BK807.out) hb); have n1_ := Aside0.mk (blk_below (g := gb809) (o := .cells #[.int .i64 ((rd_T88 l1 x23_2).f0), .bool ((rd_T88 l1 x23_2).f1), .int .i64 ((rd_T88 l1 x23_2).f2)] 88 (0, 0)) (by (with_reducible repeat (first | refine blk_drewN ?_ _ | refine blk_drew ?_ | refine blk_alloc ?_ _)); refine blk_put (cs := #[.int .i64 ((rd_T88 l1 x23_2).f0), .bool ((rd_T88 l1 x23_2).f1), .int .i64 0]) ?_ 2 _ rfl; (with_reducible repeat (first | refine blk_drewN ?_ _ | refine blk_drew ?_ | refine blk_alloc ?_ _)); refine blk_put (cs := #[.int .i64 ((rd_T88 l1 x23_2).f0), .bool false, .int .i64 0]) ?_ 1 _ rfl; (with_reducible repeat (first | refine blk_drewN ?_ _ | refine blk_drew ?_ | refine blk_alloc ?_ _)); refine blk_put (cs := #[.int .i64 0, .bool false, .int .i64 0]) ?_ 0 _ rfl; (with_reducible repeat (first | refine blk_drewN ?_ _ | refine blk_drew ?_ | refine blk_alloc ?_ _)); exact BK809.out) hb); have n2_ := Aside0.mk (below_step (hb2_ HB.out GE807.out GE809.out) hb); clear BK807; clear BK809; clear HB; have BK807 := n0_; have BK809 := n1_; have HB := n2_; clear n0_ n1_ n2_; (try clear hb); (try clear hb2); (try clear hk); (try clear hi)))
                        repeat (go_quiet (first | (go_at_call 94; (with_reducible refine (impl_IvalOk.calls ((rd_T83 l0 x23_2).f1.f0) ((rd_T83 l0 x23_2).f1.f1) t810 _ A18.out).mono ?_); rintro e w21 ⟨rfl, hb⟩; have n0_ := Aside0.mk (blk_below (g := gb807) (o := .cells #[.bool true, .int .i64 ((rd_T83 l0 x23_2).f1.f0), .int .i64 ((rd_T83 l0 x23_2).f1.f1)] 83 (0, 0)) (by (with_reducible repeat (first | refine blk_drewN ?_ _ | refine blk_drew ?_ | refine blk_alloc ?_ _)); refine blk_far ?_ NB807_809.out _; (with_reducible repeat (first | refine blk_drewN ?_ _ | refine blk_drew ?_ | refine blk_alloc ?_ _)); refine blk_far ?_ NB807_809.out _; (with_reducible repeat (first | refine blk_drewN ?_ _ | refine blk_drew ?_ | refine blk_alloc ?_ _)); refine blk_far ?_ NB807_809.out _; (with_reducible repeat (first | refine blk_drewN ?_ _ | refine blk_drew ?_ | refine blk_alloc ?_ _)); exact BK807.out) hb); have n1_ := Aside0.mk (blk_below (g := gb809) (o := .cells #[.int .i64 ((rd_T88 l1 x23_2).f0), .bool ((rd_T88 l1 x23_2).f1), .int .i64 ((rd_T88 l1 x23_2).f2)] 88 (0, 0)) (by (with_reducible repeat (first | refine blk_drewN ?_ _ | refine blk_drew ?_ | refine blk_alloc ?_ _)); refine blk_put (cs := #[.int .i64 ((rd_T88 l1 x23_2).f0), .bool ((rd_T88 l1 x23_2).f1), .int .i64 0]) ?_ 2 _ rfl; (with_reducible repeat (first | refine blk_drewN ?_ _ | refine blk_drew ?_ | refine blk_alloc ?_ _)); refine blk_put (cs := #[.int .i64 ((rd_T88 l1 x23_2).f0), .bool false, .int .i64 0]) ?_ 1 _ rfl; (with_reducible repeat (first | refine blk_drewN ?_ _ | refine blk_drew ?_ | refine blk_alloc ?_ _)); refine blk_put (cs := #[.int .i64 0, .bool false, .int .i64 0]) ?_ 0 _ rfl; (with_reducible repeat (first | refine blk_drewN ?_ _ | refine blk_drew ?_ | refine blk_alloc ?_ _)); exact BK809.out) hb); have n2_ := Aside0.mk (below_step (hb2_ HB.out GE807.out GE809.out) hb); clear BK807; clear BK809; clear HB; have BK807 := n0_; have BK809 := n1_; have HB := n2_; clear n0_ n1_ n2_; (try clear hb); (try clear hb2); (try clear hk); (try clear hi))); try go_wp2_with (first | (go_at_call 94; (with_reducible refine (impl_IvalOk.calls ((rd_T83 l0 x23_2).f1.f0) ((rd_T83 l0 x23_2).f1.f1) t810 _ A18.out).mono ?_); rintro e w21 ⟨rfl, hb⟩; have n0_ := Aside0.mk (blk_below (g := gb807) (o := .cells #[.bool true, .int .i64 ((rd_T83 l0 x23_2).f1.f0), .int .i64 ((rd_T83 l0 x23_2).f1.f1)] 83 (0, 0)) (by (with_reducible repeat (first | refine blk_drewN ?_ _ | refine blk_drew ?_ | refine blk_alloc ?_ _)); refine blk_far ?_ NB807_809.out _; (with_reducible repeat (first | refine blk_drewN ?_ _ | refine blk_drew ?_ | refine blk_alloc ?_ _)); refine blk_far ?_ NB807_809.out _; (with_reducible repeat (first | refine blk_drewN ?_ _ | refine blk_drew ?_ | refine blk_alloc ?_ _)); refine blk_far ?_ NB807_809.out _; (with_reducible repeat (first | refine blk_drewN ?_ _ | refine blk_drew ?_ | refine blk_alloc ?_ _)); exact BK807.out) hb); have n1_ := Aside0.mk (blk_below (g := gb809) (o := .cells #[.int .i64 ((rd_T88 l1 x23_2).f0), .bool ((rd_T88 l1 x23_2).f1), .int .i64 ((rd_T88 l1 x23_2).f2)] 88 (0, 0)) (by (with_reducible repeat (first | refine blk_drewN ?_ _ | refine blk_drew ?_ | refine blk_alloc ?_ _)); refine blk_put (cs := #[.int .i64 ((rd_T88 l1 x23_2).f0), .bool ((rd_T88 l1 x23_2).f1), .int .i64 0]) ?_ 2 _ rfl; (with_reducible repeat (first | refine blk_drewN ?_ _ | refine blk_drew ?_ | refine blk_alloc ?_ _)); refine blk_put (cs := #[.int .i64 ((rd_T88 l1 x23_2).f0), .bool false, .int .i64 0]) ?_ 1 _ rfl; (with_reducible repeat (first | refine blk_drewN ?_ _ | refine blk_drew ?_ | refine blk_alloc ?_ _)); refine blk_put (cs := #[.int .i64 0, .bool false, .int .i64 0]) ?_ 0 _ rfl; (with_reducible repeat (first | refine blk_drewN ?_ _ | refine blk_drew ?_ | refine blk_alloc ?_ _)); exact BK809.out) hb); have n2_ := Aside0.mk (below_step (hb2_ HB.out GE807.out GE809.out) hb); clear BK807; clear BK809; clear HB; have BK807 := n0_; have BK809 := n1_; have HB := n2_; clear n0_ n1_ n2_; (try clear hb); (try clear hb2); (try clear hk); (try clear hi))))
                        go_meet
                        case rel => (try rw [← Nbq16.out]); exact ⟨_, (!t810), (by first | rfl | (simp; done) | (simp [*]; done)), H', ⟨by have := HJ2.out; have := HK2.out; first | omega | exact Nat.le_refl _⟩, ⟨bk_ BK807.out⟩, ⟨bk_ BK809.out⟩, ⟨hb2_ HB.out GE807.out GE809.out⟩⟩
                      · replace c17 := Bool.eq_false_iff.mpr c17
                        subst c17
                        have H1 : (impl_ReadsOk.j2 k2 l1 x5_2 x6_2 l0 (l0.length : Int) x23_2 false false ((rd_T83 l0 x23_2).f1.f0) ((rd_T83 l0 x23_2).f1.f1) ((rd_T88 l1 x23_2).f0) ((rd_T88 l1 x23_2).f1) ((rd_T88 l1 x23_2).f2)) = some r := by rw [if_neg (show ¬ (false = true) by decide)] at H; exact H
                        clear H
                        have H := H1
                        clear H1
                        have H' := Aside0.mk H
                        clear H
                        have hnb22 := NB807_809.out
                        have hnc22 := NB809_807.out
                        have hcz23_0 := bc_ BK807.out 0 (.bool false) rfl
                        have hcz23_1 : w13.cell? ⟨gb807, 1, none⟩ = some (.int .i64 ((rd_T83 l0 x23_2).f1.f0)) := (blk_cell BK807.out 1).trans rfl
                        have hcz23_2 : w13.cell? ⟨gb807, 2, none⟩ = some (.int .i64 ((rd_T83 l0 x23_2).f1.f1)) := (blk_cell BK807.out 2).trans rfl
                        have hfz23_0 := blk_frozen BK807.out 0
                        have hfz23_1 := blk_frozen BK807.out 1
                        have hfz23_2 := blk_frozen BK807.out 2
                        go_wp2
                        repeat (go_quiet (fail); try go_wp2)
                        go_meet
                        case rel => (try rw [← Nbq16.out]); exact ⟨_, (false), (by first | rfl | (simp; done) | (simp [*]; done)), H', ⟨by have := HJ2.out; have := HK2.out; first | omega | exact Nat.le_refl _⟩, ⟨by (with_reducible repeat (first | refine blk_drewN ?_ _ | refine blk_drew ?_ | refine blk_alloc ?_ _)); refine blk_far ?_ NB807_809.out _; (with_reducible repeat (first | refine blk_drewN ?_ _ | refine blk_drew ?_ | refine blk_alloc ?_ _)); refine blk_far ?_ NB807_809.out _; (with_reducible repeat (first | refine blk_drewN ?_ _ | refine blk_drew ?_ | refine blk_alloc ?_ _)); refine blk_far ?_ NB807_809.out _; (with_reducible repeat (first | refine blk_drewN ?_ _ | refine blk_drew ?_ | refine blk_alloc ?_ _)); exact BK807.out⟩, ⟨by (with_reducible repeat (first | refine blk_drewN ?_ _ | refine blk_drew ?_ | refine blk_alloc ?_ _)); refine blk_put (cs := #[.int .i64 ((rd_T88 l1 x23_2).f0), .bool ((rd_T88 l1 x23_2).f1), .int .i64 0]) ?_ 2 _ rfl; (with_reducible repeat (first | refine blk_drewN ?_ _ | refine blk_drew ?_ | refine blk_alloc ?_ _)); refine blk_put (cs := #[.int .i64 ((rd_T88 l1 x23_2).f0), .bool false, .int .i64 0]) ?_ 1 _ rfl; (with_reducible repeat (first | refine blk_drewN ?_ _ | refine blk_drew ?_ | refine blk_alloc ?_ _)); refine blk_put (cs := #[.int .i64 0, .bool false, .int .i64 0]) ?_ 0 _ rfl; (with_reducible repeat (first | refine blk_drewN ?_ _ | refine blk_drew ?_ | refine blk_alloc ?_ _)); exact BK809.out⟩, ⟨hb2_ HB.out GE807.out GE809.out⟩⟩
                    case rest =>
                      clear HC10
                      try clear c1
                      try clear q1
                      try clear c2
                      try clear p2
                      try clear c4
                      try clear c4b0
                      try clear c4b1
                      try clear c5
                      try clear c6
                      try clear c6b0
                      try clear c7
                      try clear c7b0
                      try clear c8
                      try clear c8b0
                      try clear p8
                      try clear q8
                      try clear hx8
                      try clear c9
                      try clear c9b0
                      try clear c14
                      try clear q16
                      try clear c17
                      try clear c19
                      try clear c22
                      try clear hcz12_0
                      try clear hcz12_1
                      try clear hcz12_2
                      try clear hcz15_0
                      try clear hcz15_1
                      try clear hcz15_2
                      try clear hcz20_0
                      try clear hcz20_1
                      try clear hcz20_2
                      try clear hcz23_0
                      try clear hcz23_1
                      try clear hcz23_2
                      try clear hfz12_0
                      try clear hfz12_1
                      try clear hfz12_2
                      try clear hfz15_0
                      try clear hfz15_1
                      try clear hfz15_2
                      try clear hfz20_0
                      try clear hfz20_1
                      try clear hfz20_2
                      try clear hfz23_0
                      try clear hfz23_1
                      try clear hfz23_2
                      try clear hx806_0
                      try clear hx806_1
                      try clear hx806_2
                      try clear hx808_0
                      try clear hx808_1
                      try clear hx808_2
                      try clear p2
                      try clear p806
                      try clear p808
                      try clear q806
                      try clear q808
                      obtain ⟨kq, x39_9, rfl, HA, HJ9, BK807, BK809, HB⟩ := hcut
                      cases kq with
                      | zero => exact absurd HA.out (by simp [impl_ReadsOk.j2])
                      | succ kj9 =>
                        have H := HA.out
                        clear HA
                        simp only [impl_ReadsOk.j2] at H
                        by_cases c24 : x39_9 = true
                        · subst c24
                          have H1 : (some false) = some r := by rw [if_pos rfl] at H; exact H
                          clear H
                          have H := H1
                          clear H1
                          obtain rfl := Option.some.inj H
                          go_wp2
                          repeat (go_quiet (fail); try go_wp2)
                          go_ret
                          exact ⟨er_, hb2_ HB.out GE807.out GE809.out⟩
                        · replace c24 := Bool.eq_false_iff.mpr c24
                          subst c24
                          have H1 : (if ((rd_T88 l1 x23_2).f2) = 2 then (if ((rd_T83 l0 x23_2).f0) = true then (some false) else (if x5_2 = true then (some false) else (if ((rd_T88 l1 x23_2).f0) = 0 then (if ((rd_T88 l1 x23_2).f1) = false then (impl_ReadsOk.l0 kj9 l1 x5_2 x6_2 l0 (l0.length : Int) (wrap64 (x23_2 + 1))) else (some false)) else (some false)))) else (if ((rd_T83 l0 x23_2).f0) = true then (if ((rd_T88 l1 x23_2).f1) = true then (if ((rd_T88 l1 x23_2).f2) = 0 then (if x5_2 = true then (if ((rd_T88 l1 x23_2).f0) = x6_2 then (if ((rd_T88 l1 x23_2).f0) > ((rd_T83 l0 x23_2).f1.f1) then (impl_ReadsOk.l0 kj9 l1 true ((rd_T88 l1 x23_2).f0) l0 (l0.length : Int) (wrap64 (x23_2 + 1))) else (some false)) else (some false)) else (some false)) else (some false)) else (if ((rd_T88 l1 x23_2).f2) = 0 then ((impl_Holds.f ((rd_T83 l0 x23_2).f1.f0) ((rd_T83 l0 x23_2).f1.f1) ((rd_T88 l1 x23_2).f0)).bind fun t811 => (if t811 = true then (if x5_2 = true then (if ((rd_T88 l1 x23_2).f0) ≥ x6_2 then (impl_ReadsOk.l0 kj9 l1 true ((rd_T88 l1 x23_2).f0) l0 (l0.length : Int) (wrap64 (x23_2 + 1))) else (some false)) else (impl_ReadsOk.l0 kj9 l1 true ((rd_T88 l1 x23_2).f0) l0 (l0.length : Int) (wrap64 (x23_2 + 1)))) else (some false))) else (some false))) else (if ((rd_T88 l1 x23_2).f2) = 0 then (if ((rd_T88 l1 x23_2).f1) = true then (if x5_2 = true then (if ((rd_T88 l1 x23_2).f0) = x6_2 then (impl_ReadsOk.l0 kj9 l1 true ((rd_T88 l1 x23_2).f0) l0 (l0.length : Int) (wrap64 (x23_2 + 1))) else (some false)) else (some false)) else (some false)) else (some false)))) = some r := by rw [if_neg (show ¬ (false = true) by decide)] at H; exact H
                          clear H
                          have H := H1
                          clear H1
                          by_cases c25 : ((rd_T88 l1 x23_2).f2) = 2
                          · rw [if_pos c25] at H
                            have c25b0 : (((rd_T88 l1 x23_2).f2) == 2) = true := beq_iff_eq.mpr c25
                            have c25b1 : (((rd_T88 l1 x23_2).f2) != 2) = false := bne_eq_false_iff_eq.mpr c25
                            clear c25
                            by_cases c26 : ((rd_T83 l0 x23_2).f0) = true
                            · rw [if_pos c26] at H
                              have c26b0 : ((rd_T83 l0 x23_2).f0) = true := c26
                              clear c26
                              obtain rfl := Option.some.inj H
                              have hnb27 := NB809_807.out
                              have hnc27 := NB807_809.out
                              have hcz28_0 : wc.cell? ⟨gb809, 0, none⟩ = some (.int .i64 ((rd_T88 l1 x23_2).f0)) := (blk_cell BK809.out 0).trans rfl
                              have hcz28_1 : wc.cell? ⟨gb809, 1, none⟩ = some (.bool ((rd_T88 l1 x23_2).f1)) := (blk_cell BK809.out 1).trans rfl
                              have hcz28_2 : wc.cell? ⟨gb809, 2, none⟩ = some (.int .i64 ((rd_T88 l1 x23_2).f2)) := (blk_cell BK809.out 2).trans rfl
                              have hfz28_0 := blk_frozen BK809.out 0
                              have hfz28_1 := blk_frozen BK809.out 1
                              have hfz28_2 := blk_frozen BK809.out 2
                              have hcz29_0 : wc.cell? ⟨gb807, 0, none⟩ = some (.bool ((rd_T83 l0 x23_2).f0)) := (blk_cell BK807.out 0).trans rfl
                              have hcz29_1 : wc.cell? ⟨gb807, 1, none⟩ = some (.int .i64 ((rd_T83 l0 x23_2).f1.f0)) := (blk_cell BK807.out 1).trans rfl
                              have hcz29_2 : wc.cell? ⟨gb807, 2, none⟩ = some (.int .i64 ((rd_T83 l0 x23_2).f1.f1)) := (blk_cell BK807.out 2).trans rfl
                              have hfz29_0 := blk_frozen BK807.out 0
                              have hfz29_1 := blk_frozen BK807.out 1
                              have hfz29_2 := blk_frozen BK807.out 2
                              go_wp2
                              repeat (go_quiet (fail); try go_wp2)
                              go_ret
                              exact ⟨er_, hb2_ HB.out GE807.out GE809.out⟩
                            · rw [if_neg c26] at H
                              have c26b0 : ((rd_T83 l0 x23_2).f0) = false := by simpa using c26
                              clear c26
                              by_cases c30 : x5_2 = true
                              · subst c30
                                have H1 : (some false) = some r := by rw [if_pos rfl] at H; exact H
                                clear H
                                have H := H1
                                clear H1
                                obtain rfl := Option.some.inj H
                                have hnb31 := NB809_807.out
                                have hnc31 := NB807_809.out
                                have hcz32_0 : wc.cell? ⟨gb809, 0, none⟩ = some (.int .i64 ((rd_T88 l1 x23_2).f0)) := (blk_cell BK809.out 0).trans rfl
                                have hcz32_1 : wc.cell? ⟨gb809, 1, none⟩ = some (.bool ((rd_T88 l1 x23_2).f1)) := (blk_cell BK809.out 1).trans rfl
                                have hcz32_2 : wc.cell? ⟨gb809, 2, none⟩ = some (.int .i64 ((rd_T88 l1 x23_2).f2)) := (blk_cell BK809.out 2).trans rfl
                                have hfz32_0 := blk_frozen BK809.out 0
                                have hfz32_1 := blk_frozen BK809.out 1
                                have hfz32_2 := blk_frozen BK809.out 2
                                have hcz33_0 : wc.cell? ⟨gb807, 0, none⟩ = some (.bool ((rd_T83 l0 x23_2).f0)) := (blk_cell BK807.out 0).trans rfl
                                have hcz33_1 : wc.cell? ⟨gb807, 1, none⟩ = some (.int .i64 ((rd_T83 l0 x23_2).f1.f0)) := (blk_cell BK807.out 1).trans rfl
                                have hcz33_2 : wc.cell? ⟨gb807, 2, none⟩ = some (.int .i64 ((rd_T83 l0 x23_2).f1.f1)) := (blk_cell BK807.out 2).trans rfl
                                have hfz33_0 := blk_frozen BK807.out 0
                                have hfz33_1 := blk_frozen BK807.out 1
                                have hfz33_2 := blk_frozen BK807.out 2
                                go_wp2
                                repeat (go_quiet (fail); try go_wp2)
                                go_ret
                                exact ⟨er_, hb2_ HB.out GE807.out GE809.out⟩
                              · replace c30 := Bool.eq_false_iff.mpr c30
                                subst c30
                                have H1 : (if ((rd_T88 l1 x23_2).f0) = 0 then (if ((rd_T88 l1 x23_2).f1) = false then (impl_ReadsOk.l0 kj9 l1 false x6_2 l0 (l0.length : Int) (wrap64 (x23_2 + 1))) else (some false)) else (some false)) = some r := by rw [if_neg (show ¬ (false = true) by decide)] at H; exact H
                                clear H
                                have H := H1
                                clear H1
                                by_cases c34 : ((rd_T88 l1 x23_2).f0) = 0
                                · rw [if_pos c34] at H
                                  have c34b0 : (((rd_T88 l1 x23_2).f0) == 0) = true := beq_iff_eq.mpr c34
                                  have c34b1 : (((rd_T88 l1 x23_2).f0) != 0) = false := bne_eq_false_iff_eq.mpr c34
                                  clear c34
                                  by_cases c35 : ((rd_T88 l1 x23_2).f1) = false
                                  · rw [if_pos c35] at H
                                    have c35b0 : ((rd_T88 l1 x23_2).f1) = false := c35
                                    clear c35
                                    have H' := Aside0.mk H
                                    clear H
                                    have hnb36 := NB809_807.out
                                    have hnc36 := NB807_809.out
                                    have hcz37_0 : wc.cell? ⟨gb809, 0, none⟩ = some (.int .i64 ((rd_T88 l1 x23_2).f0)) := (blk_cell BK809.out 0).trans rfl
                                    have hcz37_1 : wc.cell? ⟨gb809, 1, none⟩ = some (.bool ((rd_T88 l1 x23_2).f1)) := (blk_cell BK809.out 1).trans rfl
                                    have hcz37_2 : wc.cell? ⟨gb809, 2, none⟩ = some (.int .i64 ((rd_T88 l1 x23_2).f2)) := (blk_cell BK809.out 2).trans rfl
                                    have hfz37_0 := blk_frozen BK809.out 0
                                    have hfz37_1 := blk_frozen BK809.out 1
                                    have hfz37_2 := blk_frozen BK809.out 2
                                    have hcz38_0 : wc.cell? ⟨gb807, 0, none⟩ = some (.bool ((rd_T83 l0 x23_2).f0)) := (blk_cell BK807.out 0).trans rfl
                                    have hcz38_1 : wc.cell? ⟨gb807, 1, none⟩ = some (.int .i64 ((rd_T83 l0 x23_2).f1.f0)) := (blk_cell BK807.out 1).trans rfl
                                    have hcz38_2 : wc.cell? ⟨gb807, 2, none⟩ = some (.int .i64 ((rd_T83 l0 x23_2).f1.f1)) := (blk_cell BK807.out 2).trans rfl
                                    have hfz38_0 := blk_frozen BK807.out 0
                                    have hfz38_1 := blk_frozen BK807.out 1
                                    have hfz38_2 := blk_frozen BK807.out 2
                                    go_wp2
                                    repeat (go_quiet (fail); try go_wp2)
                                    go_roundg kj9
                                    case measure => have := HJ2.out; have := HK2.out; have := HJ9.out; omega
                                    case rel => (try rw [← Nbq16.out]); exact ⟨(false), (x6_2), (wrap64 (x23_2 + 1)), (by first | rfl | (simp; done) | (simp [*]; done)), (by first | rfl | (simp; done) | (simp [*]; done)), (by first | rfl | (simp; done) | (simp [*]; done)), H', ⟨by have := HJ2.out; have := HK2.out; have := HJ9.out; omega⟩, ⟨hb2_ HB.out GE807.out GE809.out⟩⟩
                                  · rw [if_neg c35] at H
                                    have c35b0 : ((rd_T88 l1 x23_2).f1) = true := by simpa using c35
                                    clear c35
                                    obtain rfl := Option.some.inj H
                                    have hnb39 := NB809_807.out
                                    have hnc39 := NB807_809.out
                                    have hcz40_0 : wc.cell? ⟨gb809, 0, none⟩ = some (.int .i64 ((rd_T88 l1 x23_2).f0)) := (blk_cell BK809.out 0).trans rfl
                                    have hcz40_1 : wc.cell? ⟨gb809, 1, none⟩ = some (.bool ((rd_T88 l1 x23_2).f1)) := (blk_cell BK809.out 1).trans rfl
                                    have hcz40_2 : wc.cell? ⟨gb809, 2, none⟩ = some (.int .i64 ((rd_T88 l1 x23_2).f2)) := (blk_cell BK809.out 2).trans rfl
                                    have hfz40_0 := blk_frozen BK809.out 0
                                    have hfz40_1 := blk_frozen BK809.out 1
                                    have hfz40_2 := blk_frozen BK809.out 2
                                    have hcz41_0 : wc.cell? ⟨gb807, 0, none⟩ = some (.bool ((rd_T83 l0 x23_2).f0)) := (blk_cell BK807.out 0).trans rfl
                                    have hcz41_1 : wc.cell? ⟨gb807, 1, none⟩ = some (.int .i64 ((rd_T83 l0 x23_2).f1.f0)) := (blk_cell BK807.out 1).trans rfl
                                    have hcz41_2 : wc.cell? ⟨gb807, 2, none⟩ = some (.int .i64 ((rd_T83 l0 x23_2).f1.f1)) := (blk_cell BK807.out 2).trans rfl
                                    have hfz41_0 := blk_frozen BK807.out 0
                                    have hfz41_1 := blk_frozen BK807.out 1
                                    have hfz41_2 := blk_frozen BK807.out 2
                                    go_wp2
                                    repeat (go_quiet (fail); try go_wp2)
                                    go_ret
                                    exact ⟨er_, hb2_ HB.out GE807.out GE809.out⟩
                                · rw [if_neg c34] at H
                                  have c34b0 : (((rd_T88 l1 x23_2).f0) == 0) = false := beq_eq_false_iff_ne.mpr c34
                                  have c34b1 : (((rd_T88 l1 x23_2).f0) != 0) = true := bne_iff_ne.mpr c34
                                  obtain rfl := Option.some.inj H
                                  have hnb42 := NB809_807.out
                                  have hnc42 := NB807_809.out
                                  have hcz43_0 : wc.cell? ⟨gb809, 0, none⟩ = some (.int .i64 ((rd_T88 l1 x23_2).f0)) := (blk_cell BK809.out 0).trans rfl
                                  have hcz43_1 : wc.cell? ⟨gb809, 1, none⟩ = some (.bool ((rd_T88 l1 x23_2).f1)) := (blk_cell BK809.out 1).trans rfl
                                  have hcz43_2 : wc.cell? ⟨gb809, 2, none⟩ = some (.int .i64 ((rd_T88 l1 x23_2).f2)) := (blk_cell BK809.out 2).trans rfl
                                  have hfz43_0 := blk_frozen BK809.out 0
                                  have hfz43_1 := blk_frozen BK809.out 1
                                  have hfz43_2 := blk_frozen BK809.out 2
                                  have hcz44_0 : wc.cell? ⟨gb807, 0, none⟩ = some (.bool ((rd_T83 l0 x23_2).f0)) := (blk_cell BK807.out 0).trans rfl
                                  have hcz44_1 : wc.cell? ⟨gb807, 1, none⟩ = some (.int .i64 ((rd_T83 l0 x23_2).f1.f0)) := (blk_cell BK807.out 1).trans rfl
                                  have hcz44_2 : wc.cell? ⟨gb807, 2, none⟩ = some (.int .i64 ((rd_T83 l0 x23_2).f1.f1)) := (blk_cell BK807.out 2).trans rfl
                                  have hfz44_0 := blk_frozen BK807.out 0
                                  have hfz44_1 := blk_frozen BK807.out 1
                                  have hfz44_2 := blk_frozen BK807.out 2
                                  go_wp2
                                  repeat (go_quiet (fail); try go_wp2)
                                  go_ret
                                  exact ⟨er_, hb2_ HB.out GE807.out GE809.out⟩
                          · rw [if_neg c25] at H
                            have c25b0 : (((rd_T88 l1 x23_2).f2) == 2) = false := beq_eq_false_iff_ne.mpr c25
                            have c25b1 : (((rd_T88 l1 x23_2).f2) != 2) = true := bne_iff_ne.mpr c25
                            by_cases c45 : ((rd_T83 l0 x23_2).f0) = true
                            · rw [if_pos c45] at H
                              have c45b0 : ((rd_T83 l0 x23_2).f0) = true := c45
                              clear c45
                              by_cases c46 : ((rd_T88 l1 x23_2).f1) = true
                              · rw [if_pos c46] at H
                                have c46b0 : ((rd_T88 l1 x23_2).f1) = true := c46
                                clear c46
                                by_cases c47 : ((rd_T88 l1 x23_2).f2) = 0
                                · rw [if_pos c47] at H
                                  have c47b0 : (((rd_T88 l1 x23_2).f2) == 0) = true := beq_iff_eq.mpr c47
                                  have c47b1 : (((rd_T88 l1 x23_2).f2) != 0) = false := bne_eq_false_iff_eq.mpr c47
                                  clear c47
                                  by_cases c48 : x5_2 = true
                                  · subst c48
                                    have H1 : (if ((rd_T88 l1 x23_2).f0) = x6_2 then (if ((rd_T88 l1 x23_2).f0) > ((rd_T83 l0 x23_2).f1.f1) then (impl_ReadsOk.l0 kj9 l1 true ((rd_T88 l1 x23_2).f0) l0 (l0.length : Int) (wrap64 (x23_2 + 1))) else (some false)) else (some false)) = some r := by rw [if_pos rfl] at H; exact H
                                    clear H
                                    have H := H1
                                    clear H1
                                    by_cases c49 : ((rd_T88 l1 x23_2).f0) = x6_2
                                    · rw [if_pos c49] at H
                                      have c49b0 : (((rd_T88 l1 x23_2).f0) == x6_2) = true := beq_iff_eq.mpr c49
                                      have c49b1 : (((rd_T88 l1 x23_2).f0) != x6_2) = false := bne_eq_false_iff_eq.mpr c49
                                      clear c49
                                      by_cases c50 : ((rd_T88 l1 x23_2).f0) > ((rd_T83 l0 x23_2).f1.f1)
                                      · rw [if_pos c50] at H
                                        have c50b0 : decide (((rd_T83 l0 x23_2).f1.f1) < ((rd_T88 l1 x23_2).f0)) = true := decide_eq_true c50
                                        clear c50
                                        have H' := Aside0.mk H
                                        clear H
                                        have hnb51 := NB809_807.out
                                        have hnc51 := NB807_809.out
                                        have hcz52_0 : wc.cell? ⟨gb809, 0, none⟩ = some (.int .i64 ((rd_T88 l1 x23_2).f0)) := (blk_cell BK809.out 0).trans rfl
                                        have hcz52_1 : wc.cell? ⟨gb809, 1, none⟩ = some (.bool ((rd_T88 l1 x23_2).f1)) := (blk_cell BK809.out 1).trans rfl
                                        have hcz52_2 : wc.cell? ⟨gb809, 2, none⟩ = some (.int .i64 ((rd_T88 l1 x23_2).f2)) := (blk_cell BK809.out 2).trans rfl
                                        have hfz52_0 := blk_frozen BK809.out 0
                                        have hfz52_1 := blk_frozen BK809.out 1
                                        have hfz52_2 := blk_frozen BK809.out 2
                                        have hcz53_0 : wc.cell? ⟨gb807, 0, none⟩ = some (.bool ((rd_T83 l0 x23_2).f0)) := (blk_cell BK807.out 0).trans rfl
                                        have hcz53_1 : wc.cell? ⟨gb807, 1, none⟩ = some (.int .i64 ((rd_T83 l0 x23_2).f1.f0)) := (blk_cell BK807.out 1).trans rfl
                                        have hcz53_2 : wc.cell? ⟨gb807, 2, none⟩ = some (.int .i64 ((rd_T83 l0 x23_2).f1.f1)) := (blk_cell BK807.out 2).trans rfl
                                        have hfz53_0 := blk_frozen BK807.out 0
                                        have hfz53_1 := blk_frozen BK807.out 1
                                        have hfz53_2 := blk_frozen BK807.out 2
                                        go_wp2
                                        repeat (go_quiet (fail); try go_wp2)
                                        go_roundg kj9
                                        case measure => have := HJ2.out; have := HK2.out; have := HJ9.out; omega
                                        case rel => (try rw [← Nbq16.out]); exact ⟨(true), (((rd_T88 l1 x23_2).f0)), (wrap64 (x23_2 + 1)), (by first | rfl | (simp; done) | (simp [*]; done)), (by first | rfl | (simp; done) | (simp [*]; done)), (by first | rfl | (simp; done) | (simp [*]; done)), H', ⟨by have := HJ2.out; have := HK2.out; have := HJ9.out; omega⟩, ⟨hb2_ HB.out GE807.out GE809.out⟩⟩
                                      · rw [if_neg c50] at H
                                        have c50b0 : decide (((rd_T83 l0 x23_2).f1.f1) < ((rd_T88 l1 x23_2).f0)) = false := decide_eq_false c50
                                        clear c50
                                        obtain rfl := Option.some.inj H
                                        have hnb54 := NB809_807.out
                                        have hnc54 := NB807_809.out
                                        have hcz55_0 : wc.cell? ⟨gb809, 0, none⟩ = some (.int .i64 ((rd_T88 l1 x23_2).f0)) := (blk_cell BK809.out 0).trans rfl
                                        have hcz55_1 : wc.cell? ⟨gb809, 1, none⟩ = some (.bool ((rd_T88 l1 x23_2).f1)) := (blk_cell BK809.out 1).trans rfl
                                        have hcz55_2 : wc.cell? ⟨gb809, 2, none⟩ = some (.int .i64 ((rd_T88 l1 x23_2).f2)) := (blk_cell BK809.out 2).trans rfl
                                        have hfz55_0 := blk_frozen BK809.out 0
                                        have hfz55_1 := blk_frozen BK809.out 1
                                        have hfz55_2 := blk_frozen BK809.out 2
                                        have hcz56_0 : wc.cell? ⟨gb807, 0, none⟩ = some (.bool ((rd_T83 l0 x23_2).f0)) := (blk_cell BK807.out 0).trans rfl
                                        have hcz56_1 : wc.cell? ⟨gb807, 1, none⟩ = some (.int .i64 ((rd_T83 l0 x23_2).f1.f0)) := (blk_cell BK807.out 1).trans rfl
                                        have hcz56_2 : wc.cell? ⟨gb807, 2, none⟩ = some (.int .i64 ((rd_T83 l0 x23_2).f1.f1)) := (blk_cell BK807.out 2).trans rfl
                                        have hfz56_0 := blk_frozen BK807.out 0
                                        have hfz56_1 := blk_frozen BK807.out 1
                                        have hfz56_2 := blk_frozen BK807.out 2
                                        go_wp2
                                        repeat (go_quiet (fail); try go_wp2)
                                        go_ret
                                        exact ⟨er_, hb2_ HB.out GE807.out GE809.out⟩
                                    · rw [if_neg c49] at H
                                      have c49b0 : (((rd_T88 l1 x23_2).f0) == x6_2) = false := beq_eq_false_iff_ne.mpr c49
                                      have c49b1 : (((rd_T88 l1 x23_2).f0) != x6_2) = true := bne_iff_ne.mpr c49
                                      obtain rfl := Option.some.inj H
                                      have hnb57 := NB809_807.out
                                      have hnc57 := NB807_809.out
                                      have hcz58_0 : wc.cell? ⟨gb809, 0, none⟩ = some (.int .i64 ((rd_T88 l1 x23_2).f0)) := (blk_cell BK809.out 0).trans rfl
                                      have hcz58_1 : wc.cell? ⟨gb809, 1, none⟩ = some (.bool ((rd_T88 l1 x23_2).f1)) := (blk_cell BK809.out 1).trans rfl
                                      have hcz58_2 : wc.cell? ⟨gb809, 2, none⟩ = some (.int .i64 ((rd_T88 l1 x23_2).f2)) := (blk_cell BK809.out 2).trans rfl
                                      have hfz58_0 := blk_frozen BK809.out 0
                                      have hfz58_1 := blk_frozen BK809.out 1
                                      have hfz58_2 := blk_frozen BK809.out 2
                                      have hcz59_0 : wc.cell? ⟨gb807, 0, none⟩ = some (.bool ((rd_T83 l0 x23_2).f0)) := (blk_cell BK807.out 0).trans rfl
                                      have hcz59_1 : wc.cell? ⟨gb807, 1, none⟩ = some (.int .i64 ((rd_T83 l0 x23_2).f1.f0)) := (blk_cell BK807.out 1).trans rfl
                                      have hcz59_2 : wc.cell? ⟨gb807, 2, none⟩ = some (.int .i64 ((rd_T83 l0 x23_2).f1.f1)) := (blk_cell BK807.out 2).trans rfl
                                      have hfz59_0 := blk_frozen BK807.out 0
                                      have hfz59_1 := blk_frozen BK807.out 1
                                      have hfz59_2 := blk_frozen BK807.out 2
                                      go_wp2
                                      repeat (go_quiet (fail); try go_wp2)
                                      go_ret
                                      exact ⟨er_, hb2_ HB.out GE807.out GE809.out⟩
                                  · replace c48 := Bool.eq_false_iff.mpr c48
                                    subst c48
                                    have H1 : (some false) = some r := by rw [if_neg (show ¬ (false = true) by decide)] at H; exact H
                                    clear H
                                    have H := H1
                                    clear H1
                                    obtain rfl := Option.some.inj H
                                    have hnb60 := NB809_807.out
                                    have hnc60 := NB807_809.out
                                    have hcz61_0 : wc.cell? ⟨gb809, 0, none⟩ = some (.int .i64 ((rd_T88 l1 x23_2).f0)) := (blk_cell BK809.out 0).trans rfl
                                    have hcz61_1 : wc.cell? ⟨gb809, 1, none⟩ = some (.bool ((rd_T88 l1 x23_2).f1)) := (blk_cell BK809.out 1).trans rfl
                                    have hcz61_2 : wc.cell? ⟨gb809, 2, none⟩ = some (.int .i64 ((rd_T88 l1 x23_2).f2)) := (blk_cell BK809.out 2).trans rfl
                                    have hfz61_0 := blk_frozen BK809.out 0
                                    have hfz61_1 := blk_frozen BK809.out 1
                                    have hfz61_2 := blk_frozen BK809.out 2
                                    have hcz62_0 : wc.cell? ⟨gb807, 0, none⟩ = some (.bool ((rd_T83 l0 x23_2).f0)) := (blk_cell BK807.out 0).trans rfl
                                    have hcz62_1 : wc.cell? ⟨gb807, 1, none⟩ = some (.int .i64 ((rd_T83 l0 x23_2).f1.f0)) := (blk_cell BK807.out 1).trans rfl
                                    have hcz62_2 : wc.cell? ⟨gb807, 2, none⟩ = some (.int .i64 ((rd_T83 l0 x23_2).f1.f1)) := (blk_cell BK807.out 2).trans rfl
                                    have hfz62_0 := blk_frozen BK807.out 0
                                    have hfz62_1 := blk_frozen BK807.out 1
                                    have hfz62_2 := blk_frozen BK807.out 2
                                    go_wp2
                                    repeat (go_quiet (fail); try go_wp2)
                                    go_ret
                                    exact ⟨er_, hb2_ HB.out GE807.out GE809.out⟩
                                · rw [if_neg c47] at H
                                  have c47b0 : (((rd_T88 l1 x23_2).f2) == 0) = false := beq_eq_false_iff_ne.mpr c47
                                  have c47b1 : (((rd_T88 l1 x23_2).f2) != 0) = true := bne_iff_ne.mpr c47
                                  obtain rfl := Option.some.inj H
                                  have hnb63 := NB809_807.out
                                  have hnc63 := NB807_809.out
                                  have hcz64_0 : wc.cell? ⟨gb809, 0, none⟩ = some (.int .i64 ((rd_T88 l1 x23_2).f0)) := (blk_cell BK809.out 0).trans rfl
                                  have hcz64_1 : wc.cell? ⟨gb809, 1, none⟩ = some (.bool ((rd_T88 l1 x23_2).f1)) := (blk_cell BK809.out 1).trans rfl
                                  have hcz64_2 : wc.cell? ⟨gb809, 2, none⟩ = some (.int .i64 ((rd_T88 l1 x23_2).f2)) := (blk_cell BK809.out 2).trans rfl
                                  have hfz64_0 := blk_frozen BK809.out 0
                                  have hfz64_1 := blk_frozen BK809.out 1
                                  have hfz64_2 := blk_frozen BK809.out 2
                                  have hcz65_0 : wc.cell? ⟨gb807, 0, none⟩ = some (.bool ((rd_T83 l0 x23_2).f0)) := (blk_cell BK807.out 0).trans rfl
                                  have hcz65_1 : wc.cell? ⟨gb807, 1, none⟩ = some (.int .i64 ((rd_T83 l0 x23_2).f1.f0)) := (blk_cell BK807.out 1).trans rfl
                                  have hcz65_2 : wc.cell? ⟨gb807, 2, none⟩ = some (.int .i64 ((rd_T83 l0 x23_2).f1.f1)) := (blk_cell BK807.out 2).trans rfl
                                  have hfz65_0 := blk_frozen BK807.out 0
                                  have hfz65_1 := blk_frozen BK807.out 1
                                  have hfz65_2 := blk_frozen BK807.out 2
                                  go_wp2
                                  repeat (go_quiet (fail); try go_wp2)
                                  go_ret
                                  exact ⟨er_, hb2_ HB.out GE807.out GE809.out⟩
                              · rw [if_neg c46] at H
                                have c46b0 : ((rd_T88 l1 x23_2).f1) = false := by simpa using c46
                                clear c46
                                by_cases c66 : ((rd_T88 l1 x23_2).f2) = 0
                                · rw [if_pos c66] at H
                                  have c66b0 : (((rd_T88 l1 x23_2).f2) == 0) = true := beq_iff_eq.mpr c66
                                  have c66b1 : (((rd_T88 l1 x23_2).f2) != 0) = false := bne_eq_false_iff_eq.mpr c66
                                  clear c66
                                  replace H := Option.bind_eq_some_iff.mp H
                                  obtain ⟨t811, A670, H⟩ := H
                                  replace H : (if t811 = true then (if x5_2 = true then (if ((rd_T88 l1 x23_2).f0) ≥ x6_2 then (impl_ReadsOk.l0 kj9 l1 true ((rd_T88 l1 x23_2).f0) l0 (l0.length : Int) (wrap64 (x23_2 + 1))) else (some false)) else (impl_ReadsOk.l0 kj9 l1 true ((rd_T88 l1 x23_2).f0) l0 (l0.length : Int) (wrap64 (x23_2 + 1)))) else (some false)) = some r := H
                                  have A67 := Aside0.mk A670
                                  clear A670
                                  by_cases c68 : t811 = true
                                  · subst c68
                                    have H1 : (if x5_2 = true then (if ((rd_T88 l1 x23_2).f0) ≥ x6_2 then (impl_ReadsOk.l0 kj9 l1 true ((rd_T88 l1 x23_2).f0) l0 (l0.length : Int) (wrap64 (x23_2 + 1))) else (some false)) else (impl_ReadsOk.l0 kj9 l1 true ((rd_T88 l1 x23_2).f0) l0 (l0.length : Int) (wrap64 (x23_2 + 1)))) = some r := by rw [if_pos rfl] at H; exact H
                                    clear H
                                    have H := H1
                                    clear H1
                                    by_cases c69 : x5_2 = true
                                    · subst c69
                                      have H1 : (if ((rd_T88 l1 x23_2).f0) ≥ x6_2 then (impl_ReadsOk.l0 kj9 l1 true ((rd_T88 l1 x23_2).f0) l0 (l0.length : Int) (wrap64 (x23_2 + 1))) else (some false)) = some r := by rw [if_pos rfl] at H; exact H
                                      clear H
                                      have H := H1
                                      clear H1
                                      by_cases c70 : ((rd_T88 l1 x23_2).f0) ≥ x6_2
                                      · rw [if_pos c70] at H
                                        have c70b0 : decide (x6_2 ≤ ((rd_T88 l1 x23_2).f0)) = true := decide_eq_true c70
                                        clear c70
                                        have H' := Aside0.mk H
                                        clear H
                                        have hnb71 := NB809_807.out
                                        have hnc71 := NB807_809.out
                                        have hcz72_0 : wc.cell? ⟨gb809, 0, none⟩ = some (.int .i64 ((rd_T88 l1 x23_2).f0)) := (blk_cell BK809.out 0).trans rfl
                                        have hcz72_1 : wc.cell? ⟨gb809, 1, none⟩ = some (.bool ((rd_T88 l1 x23_2).f1)) := (blk_cell BK809.out 1).trans rfl
                                        have hcz72_2 : wc.cell? ⟨gb809, 2, none⟩ = some (.int .i64 ((rd_T88 l1 x23_2).f2)) := (blk_cell BK809.out 2).trans rfl
                                        have hfz72_0 := blk_frozen BK809.out 0
                                        have hfz72_1 := blk_frozen BK809.out 1
                                        have hfz72_2 := blk_frozen BK809.out 2
                                        have hcz73_0 : wc.cell? ⟨gb807, 0, none⟩ = some (.bool ((rd_T83 l0 x23_2).f0)) := (blk_cell BK807.out 0).trans rfl
                                        have hcz73_1 : wc.cell? ⟨gb807, 1, none⟩ = some (.int .i64 ((rd_T83 l0 x23_2).f1.f0)) := (blk_cell BK807.out 1).trans rfl
                                        have hcz73_2 : wc.cell? ⟨gb807, 2, none⟩ = some (.int .i64 ((rd_T83 l0 x23_2).f1.f1)) := (blk_cell BK807.out 2).trans rfl
                                        have hfz73_0 := blk_frozen BK807.out 0
                                        have hfz73_1 := blk_frozen BK807.out 1
                                        have hfz73_2 := blk_frozen BK807.out 2
                                        go_wp2_with (first | (go_at_call 56; (with_reducible refine (impl_Holds.calls ((rd_T83 l0 x23_2).f1.f0) ((rd_T83 l0 x23_2).f1.f1) ((rd_T88 l1 x23_2).f0) true _ A67.out).mono ?_); rintro e w74 ⟨rfl, hb⟩; have n0_ := Aside0.mk (bb_ BK807.out hb); have n1_ := Aside0.mk (bb_ BK809.out hb); have n2_ := Aside0.mk (below_step (hb2_ HB.out GE807.out GE809.out) hb); clear BK807; clear BK809; clear HB; have BK807 := n0_; have BK809 := n1_; have HB := n2_; clear n0_ n1_ n2_; (try clear hb); (try clear hb2); (try clear hk); (try clear hi); have hcz75_0 : w74.cell? ⟨gb809, 0, none⟩ = some (.int .i64 ((rd_T88 l1 x23_2).f0)) := (blk_cell BK809.out 0).trans rfl; have hcz75_1 : w74.cell? ⟨gb809, 1, none⟩ = some (.bool ((rd_T88 l1 x23_2).f1)) := (blk_cell BK809.out 1).trans rfl; have hcz75_2 : w74.cell? ⟨gb809, 2, none⟩ = some (.int .i64 ((rd_T88 l1 x23_2).f2)) := (blk_cell BK809.out 2).trans rfl; have hfz75_0 := blk_frozen BK809.out 0; have hfz75_1 := blk_frozen BK809.out 1; have hfz75_2 := blk_frozen BK809.out 2))
                                        repeat (go_quiet (first | (go_at_call 56; (with_reducible refine (impl_Holds.calls ((rd_T83 l0 x23_2).f1.f0) ((rd_T83 l0 x23_2).f1.f1) ((rd_T88 l1 x23_2).f0) true _ A67.out).mono ?_); rintro e w74 ⟨rfl, hb⟩; have n0_ := Aside0.mk (bb_ BK807.out hb); have n1_ := Aside0.mk (bb_ BK809.out hb); have n2_ := Aside0.mk (below_step (hb2_ HB.out GE807.out GE809.out) hb); clear BK807; clear BK809; clear HB; have BK807 := n0_; have BK809 := n1_; have HB := n2_; clear n0_ n1_ n2_; (try clear hb); (try clear hb2); (try clear hk); (try clear hi); have hcz75_0 : w74.cell? ⟨gb809, 0, none⟩ = some (.int .i64 ((rd_T88 l1 x23_2).f0)) := (blk_cell BK809.out 0).trans rfl; have hcz75_1 : w74.cell? ⟨gb809, 1, none⟩ = some (.bool ((rd_T88 l1 x23_2).f1)) := (blk_cell BK809.out 1).trans rfl; have hcz75_2 : w74.cell? ⟨gb809, 2, none⟩ = some (.int .i64 ((rd_T88 l1 x23_2).f2)) := (blk_cell BK809.out 2).trans rfl; have hfz75_0 := blk_frozen BK809.out 0; have hfz75_1 := blk_frozen BK809.out 1; have hfz75_2 := blk_frozen BK809.out 2)); try go_wp2_with (first | (go_at_call 56; (with_reducible refine (impl_Holds.calls ((rd_T83 l0 x23_2).f1.f0) ((rd_T83 l0 x23_2).f1.f1) ((rd_T88 l1 x23_2).f0) true _ A67.out).mono ?_); rintro e w74 ⟨rfl, hb⟩; have n0_ := Aside0.mk (bb_ BK807.out hb); have n1_ := Aside0.mk (bb_ BK809.out hb); have n2_ := Aside0.mk (below_step (hb2_ HB.out GE807.out GE809.out) hb); clear BK807; clear BK809; clear HB; have BK807 := n0_; have BK809 := n1_; have HB := n2_; clear n0_ n1_ n2_; (try clear hb); (try clear hb2); (try clear hk); (try clear hi); have hcz75_0 : w74.cell? ⟨gb809, 0, none⟩ = some (.int .i64 ((rd_T88 l1 x23_2).f0)) := (blk_cell BK809.out 0).trans rfl; have hcz75_1 : w74.cell? ⟨gb809, 1, none⟩ = some (.bool ((rd_T88 l1 x23_2).f1)) := (blk_cell BK809.out 1).trans rfl; have hcz75_2 : w74.cell? ⟨gb809, 2, none⟩ = some (.int .i64 ((rd_T88 l1 x23_2).f2)) := (blk_cell BK809.out 2).trans rfl; have hfz75_0 := blk_frozen BK809.out 0; have hfz75_1 := blk_frozen BK809.out 1; have hfz75_2 := blk_frozen BK809.out 2)))
                                        go_roundg kj9
                                        case measure => have := HJ2.out; have := HK2.out; have := HJ9.out; omega
                                        case rel => (try rw [← Nbq16.out]); exact ⟨(true), (((rd_T88 l1 x23_2).f0)), (wrap64 (x23_2 + 1)), (by first | rfl | (simp; done) | (simp [*]; done)), (by first | rfl | (simp; done) | (simp [*]; done)), (by first | rfl | (simp; done) | (simp [*]; done)), H', ⟨by have := HJ2.out; have := HK2.out; have := HJ9.out; omega⟩, ⟨hb2_ HB.out GE807.out GE809.out⟩⟩
                                      · rw [if_neg c70] at H
                                        have c70b0 : decide (x6_2 ≤ ((rd_T88 l1 x23_2).f0)) = false := decide_eq_false c70
                                        clear c70
                                        obtain rfl := Option.some.inj H
                                        have hnb76 := NB809_807.out
                                        have hnc76 := NB807_809.out
                                        have hcz77_0 : wc.cell? ⟨gb809, 0, none⟩ = some (.int .i64 ((rd_T88 l1 x23_2).f0)) := (blk_cell BK809.out 0).trans rfl
                                        have hcz77_1 : wc.cell? ⟨gb809, 1, none⟩ = some (.bool ((rd_T88 l1 x23_2).f1)) := (blk_cell BK809.out 1).trans rfl
                                        have hcz77_2 : wc.cell? ⟨gb809, 2, none⟩ = some (.int .i64 ((rd_T88 l1 x23_2).f2)) := (blk_cell BK809.out 2).trans rfl
                                        have hfz77_0 := blk_frozen BK809.out 0
                                        have hfz77_1 := blk_frozen BK809.out 1
                                        have hfz77_2 := blk_frozen BK809.out 2
                                        have hcz78_0 : wc.cell? ⟨gb807, 0, none⟩ = some (.bool ((rd_T83 l0 x23_2).f0)) := (blk_cell BK807.out 0).trans rfl
                                        have hcz78_1 : wc.cell? ⟨gb807, 1, none⟩ = some (.int .i64 ((rd_T83 l0 x23_2).f1.f0)) := (blk_cell BK807.out 1).trans rfl
                                        have hcz78_2 : wc.cell? ⟨gb807, 2, none⟩ = some (.int .i64 ((rd_T83 l0 x23_2).f1.f1)) := (blk_cell BK807.out 2).trans rfl
                                        have hfz78_0 := blk_frozen BK807.out 0
                                        have hfz78_1 := blk_frozen BK807.out 1
                                        have hfz78_2 := blk_frozen BK807.out 2
                                        go_wp2_with (first | (go_at_call 56; (with_reducible refine (impl_Holds.calls ((rd_T83 l0 x23_2).f1.f0) ((rd_T83 l0 x23_2).f1.f1) ((rd_T88 l1 x23_2).f0) true _ A67.out).mono ?_); rintro e w79 ⟨rfl, hb⟩; have n0_ := Aside0.mk (bb_ BK807.out hb); have n1_ := Aside0.mk (bb_ BK809.out hb); have n2_ := Aside0.mk (below_step (hb2_ HB.out GE807.out GE809.out) hb); clear BK807; clear BK809; clear HB; have BK807 := n0_; have BK809 := n1_; have HB := n2_; clear n0_ n1_ n2_; (try clear hb); (try clear hb2); (try clear hk); (try clear hi); have hcz80_0 : w79.cell? ⟨gb809, 0, none⟩ = some (.int .i64 ((rd_T88 l1 x23_2).f0)) := (blk_cell BK809.out 0).trans rfl; have hcz80_1 : w79.cell? ⟨gb809, 1, none⟩ = some (.bool ((rd_T88 l1 x23_2).f1)) := (blk_cell BK809.out 1).trans rfl; have hcz80_2 : w79.cell? ⟨gb809, 2, none⟩ = some (.int .i64 ((rd_T88 l1 x23_2).f2)) := (blk_cell BK809.out 2).trans rfl; have hfz80_0 := blk_frozen BK809.out 0; have hfz80_1 := blk_frozen BK809.out 1; have hfz80_2 := blk_frozen BK809.out 2))
                                        repeat (go_quiet (first | (go_at_call 56; (with_reducible refine (impl_Holds.calls ((rd_T83 l0 x23_2).f1.f0) ((rd_T83 l0 x23_2).f1.f1) ((rd_T88 l1 x23_2).f0) true _ A67.out).mono ?_); rintro e w79 ⟨rfl, hb⟩; have n0_ := Aside0.mk (bb_ BK807.out hb); have n1_ := Aside0.mk (bb_ BK809.out hb); have n2_ := Aside0.mk (below_step (hb2_ HB.out GE807.out GE809.out) hb); clear BK807; clear BK809; clear HB; have BK807 := n0_; have BK809 := n1_; have HB := n2_; clear n0_ n1_ n2_; (try clear hb); (try clear hb2); (try clear hk); (try clear hi); have hcz80_0 : w79.cell? ⟨gb809, 0, none⟩ = some (.int .i64 ((rd_T88 l1 x23_2).f0)) := (blk_cell BK809.out 0).trans rfl; have hcz80_1 : w79.cell? ⟨gb809, 1, none⟩ = some (.bool ((rd_T88 l1 x23_2).f1)) := (blk_cell BK809.out 1).trans rfl; have hcz80_2 : w79.cell? ⟨gb809, 2, none⟩ = some (.int .i64 ((rd_T88 l1 x23_2).f2)) := (blk_cell BK809.out 2).trans rfl; have hfz80_0 := blk_frozen BK809.out 0; have hfz80_1 := blk_frozen BK809.out 1; have hfz80_2 := blk_frozen BK809.out 2)); try go_wp2_with (first | (go_at_call 56; (with_reducible refine (impl_Holds.calls ((rd_T83 l0 x23_2).f1.f0) ((rd_T83 l0 x23_2).f1.f1) ((rd_T88 l1 x23_2).f0) true _ A67.out).mono ?_); rintro e w79 ⟨rfl, hb⟩; have n0_ := Aside0.mk (bb_ BK807.out hb); have n1_ := Aside0.mk (bb_ BK809.out hb); have n2_ := Aside0.mk (below_step (hb2_ HB.out GE807.out GE809.out) hb); clear BK807; clear BK809; clear HB; have BK807 := n0_; have BK809 := n1_; have HB := n2_; clear n0_ n1_ n2_; (try clear hb); (try clear hb2); (try clear hk); (try clear hi); have hcz80_0 : w79.cell? ⟨gb809, 0, none⟩ = some (.int .i64 ((rd_T88 l1 x23_2).f0)) := (blk_cell BK809.out 0).trans rfl; have hcz80_1 : w79.cell? ⟨gb809, 1, none⟩ = some (.bool ((rd_T88 l1 x23_2).f1)) := (blk_cell BK809.out 1).trans rfl; have hcz80_2 : w79.cell? ⟨gb809, 2, none⟩ = some (.int .i64 ((rd_T88 l1 x23_2).f2)) := (blk_cell BK809.out 2).trans rfl; have hfz80_0 := blk_frozen BK809.out 0; have hfz80_1 := blk_frozen BK809.out 1; have hfz80_2 := blk_frozen BK809.out 2)))
                                        go_ret
                                        exact ⟨er_, hb2_ HB.out GE807.out GE809.out⟩
                                    · replace c69 := Bool.eq_false_iff.mpr c69
                                      subst c69
                                      have H1 : (impl_ReadsOk.l0 kj9 l1 true ((rd_T88 l1 x23_2).f0) l0 (l0.length : Int) (wrap64 (x23_2 + 1))) = some r := by rw [if_neg (show ¬ (false = true) by decide)] at H; exact H
                                      clear H
                                      have H := H1
                                      clear H1
                                      have H' := Aside0.mk H
                                      clear H
                                      have hnb81 := NB809_807.out
                                      have hnc81 := NB807_809.out
                                      have hcz82_0 : wc.cell? ⟨gb809, 0, none⟩ = some (.int .i64 ((rd_T88 l1 x23_2).f0)) := (blk_cell BK809.out 0).trans rfl
                                      have hcz82_1 : wc.cell? ⟨gb809, 1, none⟩ = some (.bool ((rd_T88 l1 x23_2).f1)) := (blk_cell BK809.out 1).trans rfl
                                      have hcz82_2 : wc.cell? ⟨gb809, 2, none⟩ = some (.int .i64 ((rd_T88 l1 x23_2).f2)) := (blk_cell BK809.out 2).trans rfl
                                      have hfz82_0 := blk_frozen BK809.out 0
                                      have hfz82_1 := blk_frozen BK809.out 1
                                      have hfz82_2 := blk_frozen BK809.out 2
                                      have hcz83_0 : wc.cell? ⟨gb807, 0, none⟩ = some (.bool ((rd_T83 l0 x23_2).f0)) := (blk_cell BK807.out 0).trans rfl
                                      have hcz83_1 : wc.cell? ⟨gb807, 1, none⟩ = some (.int .i64 ((rd_T83 l0 x23_2).f1.f0)) := (blk_cell BK807.out 1).trans rfl
                                      have hcz83_2 : wc.cell? ⟨gb807, 2, none⟩ = some (.int .i64 ((rd_T83 l0 x23_2).f1.f1)) := (blk_cell BK807.out 2).trans rfl
                                      have hfz83_0 := blk_frozen BK807.out 0
                                      have hfz83_1 := blk_frozen BK807.out 1
                                      have hfz83_2 := blk_frozen BK807.out 2
                                      go_wp2_with (first | (go_at_call 56; (with_reducible refine (impl_Holds.calls ((rd_T83 l0 x23_2).f1.f0) ((rd_T83 l0 x23_2).f1.f1) ((rd_T88 l1 x23_2).f0) true _ A67.out).mono ?_); rintro e w84 ⟨rfl, hb⟩; have n0_ := Aside0.mk (bb_ BK807.out hb); have n1_ := Aside0.mk (bb_ BK809.out hb); have n2_ := Aside0.mk (below_step (hb2_ HB.out GE807.out GE809.out) hb); clear BK807; clear BK809; clear HB; have BK807 := n0_; have BK809 := n1_; have HB := n2_; clear n0_ n1_ n2_; (try clear hb); (try clear hb2); (try clear hk); (try clear hi); have hcz85_0 : w84.cell? ⟨gb809, 0, none⟩ = some (.int .i64 ((rd_T88 l1 x23_2).f0)) := (blk_cell BK809.out 0).trans rfl; have hcz85_1 : w84.cell? ⟨gb809, 1, none⟩ = some (.bool ((rd_T88 l1 x23_2).f1)) := (blk_cell BK809.out 1).trans rfl; have hcz85_2 : w84.cell? ⟨gb809, 2, none⟩ = some (.int .i64 ((rd_T88 l1 x23_2).f2)) := (blk_cell BK809.out 2).trans rfl; have hfz85_0 := blk_frozen BK809.out 0; have hfz85_1 := blk_frozen BK809.out 1; have hfz85_2 := blk_frozen BK809.out 2))
                                      repeat (go_quiet (first | (go_at_call 56; (with_reducible refine (impl_Holds.calls ((rd_T83 l0 x23_2).f1.f0) ((rd_T83 l0 x23_2).f1.f1) ((rd_T88 l1 x23_2).f0) true _ A67.out).mono ?_); rintro e w84 ⟨rfl, hb⟩; have n0_ := Aside0.mk (bb_ BK807.out hb); have n1_ := Aside0.mk (bb_ BK809.out hb); have n2_ := Aside0.mk (below_step (hb2_ HB.out GE807.out GE809.out) hb); clear BK807; clear BK809; clear HB; have BK807 := n0_; have BK809 := n1_; have HB := n2_; clear n0_ n1_ n2_; (try clear hb); (try clear hb2); (try clear hk); (try clear hi); have hcz85_0 : w84.cell? ⟨gb809, 0, none⟩ = some (.int .i64 ((rd_T88 l1 x23_2).f0)) := (blk_cell BK809.out 0).trans rfl; have hcz85_1 : w84.cell? ⟨gb809, 1, none⟩ = some (.bool ((rd_T88 l1 x23_2).f1)) := (blk_cell BK809.out 1).trans rfl; have hcz85_2 : w84.cell? ⟨gb809, 2, none⟩ = some (.int .i64 ((rd_T88 l1 x23_2).f2)) := (blk_cell BK809.out 2).trans rfl; have hfz85_0 := blk_frozen BK809.out 0; have hfz85_1 := blk_frozen BK809.out 1; have hfz85_2 := blk_frozen BK809.out 2)); try go_wp2_with (first | (go_at_call 56; (with_reducible refine (impl_Holds.calls ((rd_T83 l0 x23_2).f1.f0) ((rd_T83 l0 x23_2).f1.f1) ((rd_T88 l1 x23_2).f0) true _ A67.out).mono ?_); rintro e w84 ⟨rfl, hb⟩; have n0_ := Aside0.mk (bb_ BK807.out hb); have n1_ := Aside0.mk (bb_ BK809.out hb); have n2_ := Aside0.mk (below_step (hb2_ HB.out GE807.out GE809.out) hb); clear BK807; clear BK809; clear HB; have BK807 := n0_; have BK809 := n1_; have HB := n2_; clear n0_ n1_ n2_; (try clear hb); (try clear hb2); (try clear hk); (try clear hi); have hcz85_0 : w84.cell? ⟨gb809, 0, none⟩ = some (.int .i64 ((rd_T88 l1 x23_2).f0)) := (blk_cell BK809.out 0).trans rfl; have hcz85_1 : w84.cell? ⟨gb809, 1, none⟩ = some (.bool ((rd_T88 l1 x23_2).f1)) := (blk_cell BK809.out 1).trans rfl; have hcz85_2 : w84.cell? ⟨gb809, 2, none⟩ = some (.int .i64 ((rd_T88 l1 x23_2).f2)) := (blk_cell BK809.out 2).trans rfl; have hfz85_0 := blk_frozen BK809.out 0; have hfz85_1 := blk_frozen BK809.out 1; have hfz85_2 := blk_frozen BK809.out 2)))
                                      go_roundg kj9
                                      case measure => have := HJ2.out; have := HK2.out; have := HJ9.out; omega
                                      case rel => (try rw [← Nbq16.out]); exact ⟨(true), (((rd_T88 l1 x23_2).f0)), (wrap64 (x23_2 + 1)), (by first | rfl | (simp; done) | (simp [*]; done)), (by first | rfl | (simp; done) | (simp [*]; done)), (by first | rfl | (simp; done) | (simp [*]; done)), H', ⟨by have := HJ2.out; have := HK2.out; have := HJ9.out; omega⟩, ⟨hb2_ HB.out GE807.out GE809.out⟩⟩
                                  · replace c68 := Bool.eq_false_iff.mpr c68
                                    subst c68
                                    have H1 : (some false) = some r := by rw [if_neg (show ¬ (false = true) by decide)] at H; exact H
                                    clear H
                                    have H := H1
                                    clear H1
                                    obtain rfl := Option.some.inj H
                                    have hnb86 := NB809_807.out
                                    have hnc86 := NB807_809.out
                                    have hcz87_0 : wc.cell? ⟨gb809, 0, none⟩ = some (.int .i64 ((rd_T88 l1 x23_2).f0)) := (blk_cell BK809.out 0).trans rfl
                                    have hcz87_1 : wc.cell? ⟨gb809, 1, none⟩ = some (.bool ((rd_T88 l1 x23_2).f1)) := (blk_cell BK809.out 1).trans rfl
                                    have hcz87_2 : wc.cell? ⟨gb809, 2, none⟩ = some (.int .i64 ((rd_T88 l1 x23_2).f2)) := (blk_cell BK809.out 2).trans rfl
                                    have hfz87_0 := blk_frozen BK809.out 0
                                    have hfz87_1 := blk_frozen BK809.out 1
                                    have hfz87_2 := blk_frozen BK809.out 2
                                    have hcz88_0 : wc.cell? ⟨gb807, 0, none⟩ = some (.bool ((rd_T83 l0 x23_2).f0)) := (blk_cell BK807.out 0).trans rfl
                                    have hcz88_1 : wc.cell? ⟨gb807, 1, none⟩ = some (.int .i64 ((rd_T83 l0 x23_2).f1.f0)) := (blk_cell BK807.out 1).trans rfl
                                    have hcz88_2 : wc.cell? ⟨gb807, 2, none⟩ = some (.int .i64 ((rd_T83 l0 x23_2).f1.f1)) := (blk_cell BK807.out 2).trans rfl
                                    have hfz88_0 := blk_frozen BK807.out 0
                                    have hfz88_1 := blk_frozen BK807.out 1
                                    have hfz88_2 := blk_frozen BK807.out 2
                                    go_wp2_with (first | (go_at_call 56; (with_reducible refine (impl_Holds.calls ((rd_T83 l0 x23_2).f1.f0) ((rd_T83 l0 x23_2).f1.f1) ((rd_T88 l1 x23_2).f0) false _ A67.out).mono ?_); rintro e w89 ⟨rfl, hb⟩; have n0_ := Aside0.mk (bb_ BK807.out hb); have n1_ := Aside0.mk (bb_ BK809.out hb); have n2_ := Aside0.mk (below_step (hb2_ HB.out GE807.out GE809.out) hb); clear BK807; clear BK809; clear HB; have BK807 := n0_; have BK809 := n1_; have HB := n2_; clear n0_ n1_ n2_; (try clear hb); (try clear hb2); (try clear hk); (try clear hi)))
                                    repeat (go_quiet (first | (go_at_call 56; (with_reducible refine (impl_Holds.calls ((rd_T83 l0 x23_2).f1.f0) ((rd_T83 l0 x23_2).f1.f1) ((rd_T88 l1 x23_2).f0) false _ A67.out).mono ?_); rintro e w89 ⟨rfl, hb⟩; have n0_ := Aside0.mk (bb_ BK807.out hb); have n1_ := Aside0.mk (bb_ BK809.out hb); have n2_ := Aside0.mk (below_step (hb2_ HB.out GE807.out GE809.out) hb); clear BK807; clear BK809; clear HB; have BK807 := n0_; have BK809 := n1_; have HB := n2_; clear n0_ n1_ n2_; (try clear hb); (try clear hb2); (try clear hk); (try clear hi))); try go_wp2_with (first | (go_at_call 56; (with_reducible refine (impl_Holds.calls ((rd_T83 l0 x23_2).f1.f0) ((rd_T83 l0 x23_2).f1.f1) ((rd_T88 l1 x23_2).f0) false _ A67.out).mono ?_); rintro e w89 ⟨rfl, hb⟩; have n0_ := Aside0.mk (bb_ BK807.out hb); have n1_ := Aside0.mk (bb_ BK809.out hb); have n2_ := Aside0.mk (below_step (hb2_ HB.out GE807.out GE809.out) hb); clear BK807; clear BK809; clear HB; have BK807 := n0_; have BK809 := n1_; have HB := n2_; clear n0_ n1_ n2_; (try clear hb); (try clear hb2); (try clear hk); (try clear hi))))
                                    go_ret
                                    exact ⟨er_, hb2_ HB.out GE807.out GE809.out⟩
                                · rw [if_neg c66] at H
                                  have c66b0 : (((rd_T88 l1 x23_2).f2) == 0) = false := beq_eq_false_iff_ne.mpr c66
                                  have c66b1 : (((rd_T88 l1 x23_2).f2) != 0) = true := bne_iff_ne.mpr c66
                                  obtain rfl := Option.some.inj H
                                  have hnb90 := NB809_807.out
                                  have hnc90 := NB807_809.out
                                  have hcz91_0 : wc.cell? ⟨gb809, 0, none⟩ = some (.int .i64 ((rd_T88 l1 x23_2).f0)) := (blk_cell BK809.out 0).trans rfl
                                  have hcz91_1 : wc.cell? ⟨gb809, 1, none⟩ = some (.bool ((rd_T88 l1 x23_2).f1)) := (blk_cell BK809.out 1).trans rfl
                                  have hcz91_2 : wc.cell? ⟨gb809, 2, none⟩ = some (.int .i64 ((rd_T88 l1 x23_2).f2)) := (blk_cell BK809.out 2).trans rfl
                                  have hfz91_0 := blk_frozen BK809.out 0
                                  have hfz91_1 := blk_frozen BK809.out 1
                                  have hfz91_2 := blk_frozen BK809.out 2
                                  have hcz92_0 : wc.cell? ⟨gb807, 0, none⟩ = some (.bool ((rd_T83 l0 x23_2).f0)) := (blk_cell BK807.out 0).trans rfl
                                  have hcz92_1 : wc.cell? ⟨gb807, 1, none⟩ = some (.int .i64 ((rd_T83 l0 x23_2).f1.f0)) := (blk_cell BK807.out 1).trans rfl
                                  have hcz92_2 : wc.cell? ⟨gb807, 2, none⟩ = some (.int .i64 ((rd_T83 l0 x23_2).f1.f1)) := (blk_cell BK807.out 2).trans rfl
                                  have hfz92_0 := blk_frozen BK807.out 0
                                  have hfz92_1 := blk_frozen BK807.out 1
                                  have hfz92_2 := blk_frozen BK807.out 2
                                  go_wp2
                                  repeat (go_quiet (fail); try go_wp2)
                                  go_ret
                                  exact ⟨er_, hb2_ HB.out GE807.out GE809.out⟩
                            · rw [if_neg c45] at H
                              have c45b0 : ((rd_T83 l0 x23_2).f0) = false := by simpa using c45
                              clear c45
                              by_cases c93 : ((rd_T88 l1 x23_2).f2) = 0
                              · rw [if_pos c93] at H
                                have c93b0 : (((rd_T88 l1 x23_2).f2) == 0) = true := beq_iff_eq.mpr c93
                                have c93b1 : (((rd_T88 l1 x23_2).f2) != 0) = false := bne_eq_false_iff_eq.mpr c93
                                clear c93
                                by_cases c94 : ((rd_T88 l1 x23_2).f1) = true
                                · rw [if_pos c94] at H
                                  have c94b0 : ((rd_T88 l1 x23_2).f1) = true := c94
                                  clear c94
                                  by_cases c95 : x5_2 = true
                                  · subst c95
                                    have H1 : (if ((rd_T88 l1 x23_2).f0) = x6_2 then (impl_ReadsOk.l0 kj9 l1 true ((rd_T88 l1 x23_2).f0) l0 (l0.length : Int) (wrap64 (x23_2 + 1))) else (some false)) = some r := by rw [if_pos rfl] at H; exact H
                                    clear H
                                    have H := H1
                                    clear H1
                                    by_cases c96 : ((rd_T88 l1 x23_2).f0) = x6_2
                                    · rw [if_pos c96] at H
                                      have c96b0 : (((rd_T88 l1 x23_2).f0) == x6_2) = true := beq_iff_eq.mpr c96
                                      have c96b1 : (((rd_T88 l1 x23_2).f0) != x6_2) = false := bne_eq_false_iff_eq.mpr c96
                                      clear c96
                                      have H' := Aside0.mk H
                                      clear H
                                      have hnb97 := NB809_807.out
                                      have hnc97 := NB807_809.out
                                      have hcz98_0 : wc.cell? ⟨gb809, 0, none⟩ = some (.int .i64 ((rd_T88 l1 x23_2).f0)) := (blk_cell BK809.out 0).trans rfl
                                      have hcz98_1 : wc.cell? ⟨gb809, 1, none⟩ = some (.bool ((rd_T88 l1 x23_2).f1)) := (blk_cell BK809.out 1).trans rfl
                                      have hcz98_2 : wc.cell? ⟨gb809, 2, none⟩ = some (.int .i64 ((rd_T88 l1 x23_2).f2)) := (blk_cell BK809.out 2).trans rfl
                                      have hfz98_0 := blk_frozen BK809.out 0
                                      have hfz98_1 := blk_frozen BK809.out 1
                                      have hfz98_2 := blk_frozen BK809.out 2
                                      have hcz99_0 : wc.cell? ⟨gb807, 0, none⟩ = some (.bool ((rd_T83 l0 x23_2).f0)) := (blk_cell BK807.out 0).trans rfl
                                      have hcz99_1 : wc.cell? ⟨gb807, 1, none⟩ = some (.int .i64 ((rd_T83 l0 x23_2).f1.f0)) := (blk_cell BK807.out 1).trans rfl
                                      have hcz99_2 : wc.cell? ⟨gb807, 2, none⟩ = some (.int .i64 ((rd_T83 l0 x23_2).f1.f1)) := (blk_cell BK807.out 2).trans rfl
                                      have hfz99_0 := blk_frozen BK807.out 0
                                      have hfz99_1 := blk_frozen BK807.out 1
                                      have hfz99_2 := blk_frozen BK807.out 2
                                      go_wp2
                                      repeat (go_quiet (fail); try go_wp2)
                                      go_roundg kj9
                                      case measure => have := HJ2.out; have := HK2.out; have := HJ9.out; omega
                                      case rel => (try rw [← Nbq16.out]); exact ⟨(true), (((rd_T88 l1 x23_2).f0)), (wrap64 (x23_2 + 1)), (by first | rfl | (simp; done) | (simp [*]; done)), (by first | rfl | (simp; done) | (simp [*]; done)), (by first | rfl | (simp; done) | (simp [*]; done)), H', ⟨by have := HJ2.out; have := HK2.out; have := HJ9.out; omega⟩, ⟨hb2_ HB.out GE807.out GE809.out⟩⟩
                                    · rw [if_neg c96] at H
                                      have c96b0 : (((rd_T88 l1 x23_2).f0) == x6_2) = false := beq_eq_false_iff_ne.mpr c96
                                      have c96b1 : (((rd_T88 l1 x23_2).f0) != x6_2) = true := bne_iff_ne.mpr c96
                                      obtain rfl := Option.some.inj H
                                      have hnb100 := NB809_807.out
                                      have hnc100 := NB807_809.out
                                      have hcz101_0 : wc.cell? ⟨gb809, 0, none⟩ = some (.int .i64 ((rd_T88 l1 x23_2).f0)) := (blk_cell BK809.out 0).trans rfl
                                      have hcz101_1 : wc.cell? ⟨gb809, 1, none⟩ = some (.bool ((rd_T88 l1 x23_2).f1)) := (blk_cell BK809.out 1).trans rfl
                                      have hcz101_2 : wc.cell? ⟨gb809, 2, none⟩ = some (.int .i64 ((rd_T88 l1 x23_2).f2)) := (blk_cell BK809.out 2).trans rfl
                                      have hfz101_0 := blk_frozen BK809.out 0
                                      have hfz101_1 := blk_frozen BK809.out 1
                                      have hfz101_2 := blk_frozen BK809.out 2
                                      have hcz102_0 : wc.cell? ⟨gb807, 0, none⟩ = some (.bool ((rd_T83 l0 x23_2).f0)) := (blk_cell BK807.out 0).trans rfl
                                      have hcz102_1 : wc.cell? ⟨gb807, 1, none⟩ = some (.int .i64 ((rd_T83 l0 x23_2).f1.f0)) := (blk_cell BK807.out 1).trans rfl
                                      have hcz102_2 : wc.cell? ⟨gb807, 2, none⟩ = some (.int .i64 ((rd_T83 l0 x23_2).f1.f1)) := (blk_cell BK807.out 2).trans rfl
                                      have hfz102_0 := blk_frozen BK807.out 0
                                      have hfz102_1 := blk_frozen BK807.out 1
                                      have hfz102_2 := blk_frozen BK807.out 2
                                      go_wp2
                                      repeat (go_quiet (fail); try go_wp2)
                                      go_ret
                                      exact ⟨er_, hb2_ HB.out GE807.out GE809.out⟩
                                  · replace c95 := Bool.eq_false_iff.mpr c95
                                    subst c95
                                    have H1 : (some false) = some r := by rw [if_neg (show ¬ (false = true) by decide)] at H; exact H
                                    clear H
                                    have H := H1
                                    clear H1
                                    obtain rfl := Option.some.inj H
                                    have hnb103 := NB809_807.out
                                    have hnc103 := NB807_809.out
                                    have hcz104_0 : wc.cell? ⟨gb809, 0, none⟩ = some (.int .i64 ((rd_T88 l1 x23_2).f0)) := (blk_cell BK809.out 0).trans rfl
                                    have hcz104_1 : wc.cell? ⟨gb809, 1, none⟩ = some (.bool ((rd_T88 l1 x23_2).f1)) := (blk_cell BK809.out 1).trans rfl
                                    have hcz104_2 : wc.cell? ⟨gb809, 2, none⟩ = some (.int .i64 ((rd_T88 l1 x23_2).f2)) := (blk_cell BK809.out 2).trans rfl
                                    have hfz104_0 := blk_frozen BK809.out 0
                                    have hfz104_1 := blk_frozen BK809.out 1
                                    have hfz104_2 := blk_frozen BK809.out 2
                                    have hcz105_0 : wc.cell? ⟨gb807, 0, none⟩ = some (.bool ((rd_T83 l0 x23_2).f0)) := (blk_cell BK807.out 0).trans rfl
                                    have hcz105_1 : wc.cell? ⟨gb807, 1, none⟩ = some (.int .i64 ((rd_T83 l0 x23_2).f1.f0)) := (blk_cell BK807.out 1).trans rfl
                                    have hcz105_2 : wc.cell? ⟨gb807, 2, none⟩ = some (.int .i64 ((rd_T83 l0 x23_2).f1.f1)) := (blk_cell BK807.out 2).trans rfl
                                    have hfz105_0 := blk_frozen BK807.out 0
                                    have hfz105_1 := blk_frozen BK807.out 1
                                    have hfz105_2 := blk_frozen BK807.out 2
                                    go_wp2
                                    repeat (go_quiet (fail); try go_wp2)
                                    go_ret
                                    exact ⟨er_, hb2_ HB.out GE807.out GE809.out⟩
                                · rw [if_neg c94] at H
                                  have c94b0 : ((rd_T88 l1 x23_2).f1) = false := by simpa using c94
                                  clear c94
                                  obtain rfl := Option.some.inj H
                                  have hnb106 := NB809_807.out
                                  have hnc106 := NB807_809.out
                                  have hcz107_0 : wc.cell? ⟨gb809, 0, none⟩ = some (.int .i64 ((rd_T88 l1 x23_2).f0)) := (blk_cell BK809.out 0).trans rfl
                                  have hcz107_1 : wc.cell? ⟨gb809, 1, none⟩ = some (.bool ((rd_T88 l1 x23_2).f1)) := (blk_cell BK809.out 1).trans rfl
                                  have hcz107_2 : wc.cell? ⟨gb809, 2, none⟩ = some (.int .i64 ((rd_T88 l1 x23_2).f2)) := (blk_cell BK809.out 2).trans rfl
                                  have hfz107_0 := blk_frozen BK809.out 0
                                  have hfz107_1 := blk_frozen BK809.out 1
                                  have hfz107_2 := blk_frozen BK809.out 2
                                  have hcz108_0 : wc.cell? ⟨gb807, 0, none⟩ = some (.bool ((rd_T83 l0 x23_2).f0)) := (blk_cell BK807.out 0).trans rfl
                                  have hcz108_1 : wc.cell? ⟨gb807, 1, none⟩ = some (.int .i64 ((rd_T83 l0 x23_2).f1.f0)) := (blk_cell BK807.out 1).trans rfl
                                  have hcz108_2 : wc.cell? ⟨gb807, 2, none⟩ = some (.int .i64 ((rd_T83 l0 x23_2).f1.f1)) := (blk_cell BK807.out 2).trans rfl
                                  have hfz108_0 := blk_frozen BK807.out 0
                                  have hfz108_1 := blk_frozen BK807.out 1
                                  have hfz108_2 := blk_frozen BK807.out 2
                                  go_wp2
                                  repeat (go_quiet (fail); try go_wp2)
                                  go_ret
                                  exact ⟨er_, hb2_ HB.out GE807.out GE809.out⟩
                              · rw [if_neg c93] at H
                                have c93b0 : (((rd_T88 l1 x23_2).f2) == 0) = false := beq_eq_false_iff_ne.mpr c93
                                have c93b1 : (((rd_T88 l1 x23_2).f2) != 0) = true := bne_iff_ne.mpr c93
                                obtain rfl := Option.some.inj H
                                have hnb109 := NB809_807.out
                                have hnc109 := NB807_809.out
                                have hcz110_0 : wc.cell? ⟨gb809, 0, none⟩ = some (.int .i64 ((rd_T88 l1 x23_2).f0)) := (blk_cell BK809.out 0).trans rfl
                                have hcz110_1 : wc.cell? ⟨gb809, 1, none⟩ = some (.bool ((rd_T88 l1 x23_2).f1)) := (blk_cell BK809.out 1).trans rfl
                                have hcz110_2 : wc.cell? ⟨gb809, 2, none⟩ = some (.int .i64 ((rd_T88 l1 x23_2).f2)) := (blk_cell BK809.out 2).trans rfl
                                have hfz110_0 := blk_frozen BK809.out 0
                                have hfz110_1 := blk_frozen BK809.out 1
                                have hfz110_2 := blk_frozen BK809.out 2
                                have hcz111_0 : wc.cell? ⟨gb807, 0, none⟩ = some (.bool ((rd_T83 l0 x23_2).f0)) := (blk_cell BK807.out 0).trans rfl
                                have hcz111_1 : wc.cell? ⟨gb807, 1, none⟩ = some (.int .i64 ((rd_T83 l0 x23_2).f1.f0)) := (blk_cell BK807.out 1).trans rfl
                                have hcz111_2 : wc.cell? ⟨gb807, 2, none⟩ = some (.int .i64 ((rd_T83 l0 x23_2).f1.f1)) := (blk_cell BK807.out 2).trans rfl
                                have hfz111_0 := blk_frozen BK807.out 0
                                have hfz111_1 := blk_frozen BK807.out 1
                                have hfz111_2 := blk_frozen BK807.out 2
                                go_wp2
                                repeat (go_quiet (fail); try go_wp2)
                                go_ret
                                exact ⟨er_, hb2_ HB.out GE807.out GE809.out⟩
                  · rw [if_neg c9] at H
                    exact absurd H (by simp)
                · rw [if_neg c8] at H
                  exact absurd H (by simp)
              · rw [if_neg c7] at H
                exact absurd H (by simp)
            · rw [if_neg c6] at H
              have c6b0 : decide (x23_2 < (l0.length : Int)) = false := decide_eq_false c6
              clear c6
              obtain rfl := Option.some.inj H
              go_wp2
              repeat (go_quiet (fail); try go_wp2)
              go_ret
              exact ⟨er_, hb_ HB.out⟩
end Go.Proofs.Ytcgdnfaclbnflaa.P

namespace Go.Proofs.Ytcgdnfaclbnflaa.P
open Go.RowKit Go.Proofs.YtcgdnfaclbnflaaW.PrintWords Go.Proofs.YtcgdnfaclbnflaaW.PrintLast Go.Proofs.YtcgdnfaclbnflaaW.PrintMore
attribute [local go_sem] max2_int min2_int max_two min_two max_three min_three max_four min_four
set_option linter.unusedVariables false
set_option linter.unusedSimpArgs false
def IsS146 (w0 W : World) (g : Nat) (f0 : List Int) (f1 : Int) (f2 : Int) : Prop := ∃ A0 c0, W.heap[g]? = some (.cells #[.slice A0 f0.length c0, .int .i64 f1, .int .i64 f2] 146 (0, 0)) ∧ w0.heap.size ≤ g ∧ Kd.C (Kd.int .u8) w0 A0 f0.length f0
theorem IsS146.grown {w0 W : World} {g : Nat} {f0 : List Int} {f1 : Int} {f2 : Int} {W1 : World} {row : Option Nat} (h : IsS146 w0 W g f0 f1 f2) (hw : W.grownBy W1 row) (hne : some g ≠ row) : IsS146 w0 W1 g f0 f1 f2 := by
  obtain ⟨A0, c0, hb, hg, hr0⟩ := h
  exact ⟨A0, c0, blk_grown hb hw hne, hg, hr0⟩
theorem IsS146.below {w0 W : World} {g : Nat} {f0 : List Int} {f1 : Int} {f2 : Int} {W1 : World} (h : IsS146 w0 W g f0 f1 f2) (hw : Below W.heap.size W W1) : IsS146 w0 W1 g f0 f1 f2 := h.grown (grown_of_below hw none) (by simp)
theorem IsS146.alloc {w0 W : World} {g : Nat} {f0 : List Int} {f1 : Int} {f2 : Int} (h : IsS146 w0 W g f0 f1 f2) (o : Obj) : IsS146 w0 (W.alloc o) g f0 f1 f2 := h.below (below_alloc (Below.refl _ _) o)
theorem IsS146.drewN {w0 W : World} {g : Nat} {f0 : List Int} {f1 : Int} {f2 : Int} (h : IsS146 w0 W g f0 f1 f2) (m : Nat) : IsS146 w0 (W.drewN m) g f0 f1 f2 := h
theorem IsS146.drew {w0 W : World} {g : Nat} {f0 : List Int} {f1 : Int} {f2 : Int} (h : IsS146 w0 W g f0 f1 f2) : IsS146 w0 W.drew g f0 f1 f2 := h
theorem IsS146.apart {w0 W : World} {g : Nat} {f0 : List Int} {f1 : Int} {f2 : Int} {α : Type} {d : Kd α} {e : Nat} {base : Nat} {ok : Nat → Prop} {v : Value} {xs : List α} (h : IsS146 w0 W g f0 f1 f2) (ho : d.R e W base ok v xs) (ht : ∀ q, q ∈ e :: d.E → q ≠ 146) : d.R e W base (fun k => ok k ∧ k ≠ g) v xs := by
  obtain ⟨A0, c0, hb, hg, hr0⟩ := h
  exact Kd.R_types ho hb ht
theorem IsS146.own_ne {w0 W : World} {g : Nat} {f0 : List Int} {f1 : Int} {f2 : Int} {α : Type} {d : Kd α} {e : Nat} {base : Nat} {ok : Nat → Prop} {v : Value} {xs : List α} (h : IsS146 w0 W g f0 f1 f2) (ho : d.R e W base ok v xs) (ht : e ≠ 146) : some g ≠ v.ownBlock := by
  obtain ⟨A0, c0, hb, hg, hr0⟩ := h
  exact Kd.R_ne ho hb ht
theorem IsS146.lt {w0 W : World} {g : Nat} {f0 : List Int} {f1 : Int} {f2 : Int} (h : IsS146 w0 W g f0 f1 f2) : g < W.heap.size := by
  obtain ⟨A0, c0, hb, hg, hr0⟩ := h
  exact blk_lt hb
theorem IsS146.ge {w0 W : World} {g : Nat} {f0 : List Int} {f1 : Int} {f2 : Int} (h : IsS146 w0 W g f0 f1 f2) : w0.heap.size ≤ g := by
  obtain ⟨A0, c0, hb, hg, hr0⟩ := h
  exact hg
theorem IsS146.ne_blk {w0 W : World} {g : Nat} {f0 : List Int} {f1 : Int} {f2 : Int} {a : Nat} {cs : Array Value} {t : TypeId} {fr : Nat × Nat} (h : IsS146 w0 W g f0 f1 f2) (hb2 : W.heap[a]? = some (.cells cs t fr)) (ht : t ≠ 146) : g ≠ a := by
  obtain ⟨A0, c0, hb, hg, hr0⟩ := h
  rintro rfl
  rw [hb] at hb2
  injection hb2 with hb2
  injection hb2 with _ ht2
  exact ht ht2.symm
theorem IsS146.far {w0 W : World} {g : Nat} {f0 : List Int} {f1 : Int} {f2 : Int} {p : Addr} (h : IsS146 w0 W g f0 f1 f2) (hne : g ≠ p.block) (u : Value) : IsS146 w0 (W.setCell p u) g f0 f1 f2 := by
  obtain ⟨A0, c0, hb, hg, hr0⟩ := h
  exact ⟨A0, c0, blk_far hb hne u, hg, hr0⟩
theorem cellS146_0 {W : World} {g : Nat} {A0 : Option Addr} {c0 : Nat} {f0 : List Int} {f1 : Int} {f2 : Int} (h : W.heap[g]? = some (.cells #[.slice A0 f0.length c0, .int .i64 f1, .int .i64 f2] 146 (0, 0))) : W.cell? ⟨g, 0, none⟩ = some (.slice A0 f0.length c0) := (blk_cell h 0).trans rfl
theorem cellS146_1 {W : World} {g : Nat} {A0 : Option Addr} {c0 : Nat} {f0 : List Int} {f1 : Int} {f2 : Int} (h : W.heap[g]? = some (.cells #[.slice A0 f0.length c0, .int .i64 f1, .int .i64 f2] 146 (0, 0))) : W.cell? ⟨g, 1, none⟩ = some (.int .i64 f1) := (blk_cell h 1).trans rfl
theorem IsS146.set_1 {w0 W : World} {g : Nat} {f0 : List Int} {f1 : Int} {f2 : Int} (h : IsS146 w0 W g f0 f1 f2) (x : Int) : IsS146 w0 (W.setCell ⟨g, 1, none⟩ (.int .i64 x)) g f0 x f2 := by
  obtain ⟨A0, c0, hb, hg, hr0⟩ := h
  exact ⟨A0, c0, by simpa using blk_set hb 1 (.int .i64 x), hg, hr0⟩
theorem cellS146_2 {W : World} {g : Nat} {A0 : Option Addr} {c0 : Nat} {f0 : List Int} {f1 : Int} {f2 : Int} (h : W.heap[g]? = some (.cells #[.slice A0 f0.length c0, .int .i64 f1, .int .i64 f2] 146 (0, 0))) : W.cell? ⟨g, 2, none⟩ = some (.int .i64 f2) := (blk_cell h 2).trans rfl
theorem IsS146.set_2 {w0 W : World} {g : Nat} {f0 : List Int} {f1 : Int} {f2 : Int} (h : IsS146 w0 W g f0 f1 f2) (x : Int) : IsS146 w0 (W.setCell ⟨g, 2, none⟩ (.int .i64 x)) g f0 f1 x := by
  obtain ⟨A0, c0, hb, hg, hr0⟩ := h
  exact ⟨A0, c0, by simpa using blk_set hb 2 (.int .i64 x), hg, hr0⟩
def spec_l1New.l0 : Nat → List Int → Int → Int → Option (List Int × Int × Int)
  | 0, _, _, _ => none
  | k + 1, x0, x3, x4 => if x4 < (x0.length : Int) then (if x4 < 4000 then (if 0 ≤ x4 then (spec_l1New.l0 k x0 (Go.bits .and .i64 (wrap64 ((wrap64 ((wrap64 (x3 * 131)) + (wrap64 (rd x0 x4)))) + 7)) 1073741823) (wrap64 (x4 + 1))) else (none)) else (some (x0, 0, x3))) else (some (x0, 0, x3))
def spec_l1New.f (k : Nat) (l0 : List Int) : Option (List Int × Int × Int) := spec_l1New.l0 k l0 (wrap64 (72072 + (l0.length : Int))) 0
set_option maxHeartbeats 8000000 in
set_option maxRecDepth 100000 in
theorem spec_l1New.calls (k : Nat) (A0 : Option Addr) (c0 : Nat) (l0 : List Int) (r1 : List Int) (r2 : Int) (r3 : Int) (w0 w : World) (hB : Below w0.heap.size w0 w) (hr0 : Kd.C (Kd.int .u8) w0 A0 l0.length l0) (hc0 : l0.length ≤ c0) (h : spec_l1New.f k l0 = some (r1, r2, r3)) :
    Calls Try.prog 70 #[.slice A0 l0.length c0] w fun e w' => ∃ g_ : Nat, e = .returned (.pointer (some ⟨g_, 0, none⟩)) ∧ IsS146 w0 w' g_ r1 r2 r3 ∧ Below w0.heap.size w0 w' ∧ Below w.heap.size w w' := by
  have hu146 := Try.underlying146
  have HR0 := Aside0.mk hr0
  have HC0 := Aside0.mk hc0
  clear hr0 hc0
  have HBW := Aside0.mk (Below.refl w.heap.size w)
  have HW0 := Aside0.mk hB.size
  have HB := Aside0.mk hB
  clear hB
  have H : (spec_l1New.l0 k l0 (wrap64 (72072 + (l0.length : Int))) 0) = some (r1, r2, r3) := h
  clear h
  have H' := Aside0.mk H
  clear H
  go_enter Try.func70, Try.ntmps70
  go_wp2
  go_loopg [3, 4] k (fun kq v3 v4 w' => ∃ (x3_1 : Int) (x4_1 : Int), v3 = .int .i64 x3_1 ∧ v4 = .int .i64 x4_1 ∧ Aside0 (spec_l1New.l0 kq l0 x3_1 x4_1 = some (r1, r2, r3)) ∧ Aside0 (kq ≤ k) ∧ Aside0 (Below w0.heap.size w0 w') ∧ Aside0 (Below w.heap.size w w'))
  case atStart => exact ⟨(wrap64 (72072 + (l0.length : Int))), (0), (by first | rfl | (simp; done) | (simp [*]; done)), (by first | rfl | (simp; done) | (simp [*]; done)), H', ⟨Nat.le_refl _⟩, ⟨hb_ HB.out⟩, ⟨by repeat (first | (with_reducible first | exact HBW.out | apply below_alloc | apply pw_below_drewN | apply below_drew1) | exact HBW.out)⟩⟩
  case round =>
    clear H'
    obtain ⟨x3_1, x4_1, rfl, rfl, HA, HK1, HB, HBW⟩ := hrel
    cases gk with
    | zero => exact absurd HA.out (by simp [spec_l1New.l0])
    | succ k1 =>
      have H := HA.out
      clear HA
      simp only [spec_l1New.l0] at H
      by_cases c2 : x4_1 < (l0.length : Int)
      · rw [if_pos c2] at H
        have c2b0 : decide (x4_1 < (l0.length : Int)) = true := decide_eq_true c2
        clear c2
        by_cases c3 : x4_1 < 4000
        · rw [if_pos c3] at H
          have c3b0 : decide (x4_1 < 4000) = true := decide_eq_true c3
          clear c3
          by_cases c4 : 0 ≤ x4_1
          · rw [if_pos c4] at H
            have c4b0 : decide (0 ≤ x4_1) = true := decide_eq_true c4
            clear c4
            have H' := Aside0.mk H
            clear H
            have p268 : 0 ≤ (x4_1 : Int) := of_decide_eq_true (by first | (with_reducible assumption) | assumption)
            have q268 : x4_1 < (l0.length : Int) := of_decide_eq_true (by first | (with_reducible assumption) | assumption)
            obtain ⟨ad268, e268, hx268_0⟩ := Kd.at_int HR0.out x4_1 p268 q268
            cases e268
            replace hx268_0 := pw_cell_below HB.out hx268_0
            replace p268 := eq_true p268
            replace q268 := eq_true q268
            go_wp2
            go_roundg k1
            case measure => have := HK1.out; omega
            case rel => exact ⟨(Go.bits .and .i64 (wrap64 ((wrap64 ((wrap64 (x3_1 * 131)) + (wrap64 (rd l0 x4_1)))) + 7)) 1073741823), (wrap64 (x4_1 + 1)), (by first | rfl | (simp; done) | (simp [*]; done)), (by first | rfl | (simp; done) | (simp [*]; done)), H', ⟨by have := HK1.out; omega⟩, ⟨hb_ HB.out⟩, ⟨by repeat (first | (with_reducible first | exact HBW.out | apply below_alloc | apply pw_below_drewN | apply below_drew1) | exact HBW.out)⟩⟩
          · rw [if_neg c4] at H
            exact absurd H (by simp)
        · rw [if_neg c3] at H
          have c3b0 : decide (x4_1 < 4000) = false := decide_eq_false c3
          clear c3
          simp only [Option.some.injEq, Prod.mk.injEq] at H
          obtain ⟨rfl, rfl, rfl⟩ := H
          go_wp2_with (first | ((with_reducible refine gate_dst (N := 31) rfl ?_); refine box_event ?hg (N := 31) ?hd (cs := #[.slice A0 l0.length c0, .int .i64 0, .int .i64 x3_1]) (t := 146) ?hr ?_; (case hd => rfl); (case hg => rfl); (case hr => first | (go_simp; done) | (go_simp; rfl)); intro gb269 hg w5 hbox hb; have n0_ := Aside0.mk (below_step HBW.out hb); have n1_ := Aside0.mk (below_step (hb_ HB.out) hb); have n2_ := Aside0.mk (hbox); have n3_ := Aside0.mk ((by rw [hg]; exact (below_size (by repeat (first | (with_reducible first | exact HBW.out | apply below_alloc | apply pw_below_drewN | apply below_drew1) | exact HBW.out))) : w.heap.size ≤ gb269)); have n4_ := Aside0.mk ((Nat.le_trans HW0.out (by rw [hg]; exact (below_size (by repeat (first | (with_reducible first | exact HBW.out | apply below_alloc | apply pw_below_drewN | apply below_drew1) | exact HBW.out))) : w.heap.size ≤ gb269) : w0.heap.size ≤ gb269)); clear HBW; clear HB; have HBW := n0_; have HB := n1_; have BK269 := n2_; have GW269 := n3_; have GE269 := n4_; clear n0_ n1_ n2_ n3_ n4_; clear hb hbox hg))
          go_ret
          exact ⟨_, rfl, (show IsS146 w0 _ gb269 l0 0 x3_1 from ⟨_, _, by (with_reducible repeat (first | refine blk_drewN ?_ _ | refine blk_drew ?_ | refine blk_alloc ?_ _)); exact BK269.out, GE269.out, HR0.out⟩), by repeat (first | (with_reducible first | exact HB.out | apply below_alloc | apply pw_below_drewN | apply below_drew1 | refine below_set ?_ GE269.out) | exact HB.out), by repeat (first | (with_reducible first | exact HBW.out | apply below_alloc | apply pw_below_drewN | apply below_drew1 | refine below_set ?_ GW269.out) | exact HBW.out)⟩
      · rw [if_neg c2] at H
        have c2b0 : decide (x4_1 < (l0.length : Int)) = false := decide_eq_false c2
        clear c2
        simp only [Option.some.injEq, Prod.mk.injEq] at H
        obtain ⟨rfl, rfl, rfl⟩ := H
        go_wp2_with (first | ((with_reducible refine gate_dst (N := 31) rfl ?_); refine box_event ?hg (N := 31) ?hd (cs := #[.slice A0 l0.length c0, .int .i64 0, .int .i64 x3_1]) (t := 146) ?hr ?_; (case hd => rfl); (case hg => rfl); (case hr => first | (go_simp; done) | (go_simp; rfl)); intro gb270 hg w6 hbox hb; have n0_ := Aside0.mk (below_step HBW.out hb); have n1_ := Aside0.mk (below_step (hb_ HB.out) hb); have n2_ := Aside0.mk (hbox); have n3_ := Aside0.mk ((by rw [hg]; exact (below_size (by repeat (first | (with_reducible first | exact HBW.out | apply below_alloc | apply pw_below_drewN | apply below_drew1) | exact HBW.out))) : w.heap.size ≤ gb270)); have n4_ := Aside0.mk ((Nat.le_trans HW0.out (by rw [hg]; exact (below_size (by repeat (first | (with_reducible first | exact HBW.out | apply below_alloc | apply pw_below_drewN | apply below_drew1) | exact HBW.out))) : w.heap.size ≤ gb270) : w0.heap.size ≤ gb270)); clear HBW; clear HB; have HBW := n0_; have HB := n1_; have BK270 := n2_; have GW270 := n3_; have GE270 := n4_; clear n0_ n1_ n2_ n3_ n4_; clear hb hbox hg))
        go_ret
        exact ⟨_, rfl, (show IsS146 w0 _ gb270 l0 0 x3_1 from ⟨_, _, by (with_reducible repeat (first | refine blk_drewN ?_ _ | refine blk_drew ?_ | refine blk_alloc ?_ _)); exact BK270.out, GE270.out, HR0.out⟩), by repeat (first | (with_reducible first | exact HB.out | apply below_alloc | apply pw_below_drewN | apply below_drew1 | refine below_set ?_ GE270.out) | exact HB.out), by repeat (first | (with_reducible first | exact HBW.out | apply below_alloc | apply pw_below_drewN | apply below_drew1 | refine below_set ?_ GW270.out) | exact HBW.out)⟩
def spec_l1Byte.f (s0_0 : List Int) (s0_1 : Int) (s0_2 : Int) : Option (Int × Int × Int) := if s0_1 < (s0_0.length : Int) then (if 0 ≤ s0_1 then (some (Go.bits .and .i64 (wrap64 ((Go.bits .and .i64 (Go.bits .xor .i64 ((wrap64 ((wrap64 (s0_2 * 6364136223846793005)) + 1442695040888963407)) / 8589934592) ((wrap64 ((wrap64 (s0_2 * 6364136223846793005)) + 1442695040888963407)) / 35184372088832)) 255) + (wrap64 (rd s0_0 s0_1)))) 255, wrap64 (s0_1 + 1), wrap64 ((wrap64 (s0_2 * 6364136223846793005)) + 1442695040888963407))) else (none)) else (some (Go.bits .and .i64 (Go.bits .xor .i64 ((wrap64 ((wrap64 (s0_2 * 6364136223846793005)) + 1442695040888963407)) / 8589934592) ((wrap64 ((wrap64 (s0_2 * 6364136223846793005)) + 1442695040888963407)) / 35184372088832)) 255, s0_1, wrap64 ((wrap64 (s0_2 * 6364136223846793005)) + 1442695040888963407)))
set_option maxHeartbeats 8000000 in
set_option maxRecDepth 100000 in
theorem spec_l1Byte.calls (g : Nat) (s0_0 : List Int) (s0_1 : Int) (s0_2 : Int) (r1 : Int) (r2 : Int) (r3 : Int) (w0 w : World) (hI : IsS146 w0 w g s0_0 s0_1 s0_2) (hB : Below w0.heap.size w0 w) (h : spec_l1Byte.f s0_0 s0_1 s0_2 = some (r1, r2, r3)) :
    Calls Try.prog 114 #[.pointer (some ⟨g, 0, none⟩)] w fun e w' => e = .returned (.int .i64 r1) ∧ IsS146 w0 w' g s0_0 r2 r3 ∧ Below w0.heap.size w0 w' ∧ KeepBut w w' g none := by
  have HI0 := Aside0.mk hI
  have HK := Aside0.mk (KeepBut.refl w g none)
  have HL := Aside0.mk hB.size
  clear hI
  have HW0 := Aside0.mk hB.size
  have HB := Aside0.mk hB
  clear hB
  have H : (if s0_1 < (s0_0.length : Int) then (if 0 ≤ s0_1 then (some (Go.bits .and .i64 (wrap64 ((Go.bits .and .i64 (Go.bits .xor .i64 ((wrap64 ((wrap64 (s0_2 * 6364136223846793005)) + 1442695040888963407)) / 8589934592) ((wrap64 ((wrap64 (s0_2 * 6364136223846793005)) + 1442695040888963407)) / 35184372088832)) 255) + (wrap64 (rd s0_0 s0_1)))) 255, wrap64 (s0_1 + 1), wrap64 ((wrap64 (s0_2 * 6364136223846793005)) + 1442695040888963407))) else (none)) else (some (Go.bits .and .i64 (Go.bits .xor .i64 ((wrap64 ((wrap64 (s0_2 * 6364136223846793005)) + 1442695040888963407)) / 8589934592) ((wrap64 ((wrap64 (s0_2 * 6364136223846793005)) + 1442695040888963407)) / 35184372088832)) 255, s0_1, wrap64 ((wrap64 (s0_2 * 6364136223846793005)) + 1442695040888963407)))) = some (r1, r2, r3) := h
  clear h
  by_cases c2 : s0_1 < (s0_0.length : Int)
  · rw [if_pos c2] at H
    have c2b0 : decide (s0_1 < (s0_0.length : Int)) = true := decide_eq_true c2
    clear c2
    by_cases c3 : 0 ≤ s0_1
    · rw [if_pos c3] at H
      have c3b0 : decide (0 ≤ s0_1) = true := decide_eq_true c3
      clear c3
      simp only [Option.some.injEq, Prod.mk.injEq] at H
      obtain ⟨rfl, rfl, rfl⟩ := H
      obtain ⟨ASz4_0, cSz4_0, HGz4, hgz4, HSz4_0⟩ := HI0.out
      have hcz4_0 := cellS146_0 HGz4
      have hcz4_1 := cellS146_1 HGz4
      have hcz4_2 := cellS146_2 HGz4
      have hfz4_1 := blk_frozen HGz4 1
      have hfz4_2 := blk_frozen HGz4 2
      clear HGz4 hgz4
      have p271 : 0 ≤ (s0_1 : Int) := of_decide_eq_true (by first | (with_reducible assumption) | assumption)
      have q271 : s0_1 < (s0_0.length : Int) := of_decide_eq_true (by first | (with_reducible assumption) | assumption)
      obtain ⟨ad271, e271, hx271_0⟩ := Kd.at_int HSz4_0 s0_1 p271 q271
      cases e271
      have hn271_0 : ad271.block ≠ g := Nat.ne_of_lt (Nat.lt_of_lt_of_le (by have := World.block_lt_of_cell? _ _ hx271_0; first | rwa [add_block] at this | exact this) (IsS146.ge HI0.out))
      replace hx271_0 := pw_cell_below HB.out hx271_0
      replace hx271_0 := (cell_far (p := ⟨g, 2, none⟩) (by first | (rw [add_block]; exact hn271_0) | (show (Addr.add _ _).block ≠ _; rw [add_block]; exact hn271_0) | exact hn271_0) (.int .i64 (wrap64 ((wrap64 (s0_2 * 6364136223846793005)) + 1442695040888963407)))).trans hx271_0
      (try have hy271_0 := fun (n_ : Nat) => (show (((w.drewN n_).setCell ⟨g, 2, none⟩ (.int .i64 (wrap64 ((wrap64 (s0_2 * 6364136223846793005)) + 1442695040888963407))))).cell? _ = some _ from hx271_0))
      clear hn271_0
      replace p271 := eq_true p271
      replace q271 := eq_true q271
      go_enter Try.func114, Try.ntmps114
      go_wp2
      repeat (go_quiet (fail); try go_wp2)
      go_ret
      exact ⟨er_, by repeat (first | (with_reducible first | exact HI0.out | apply IsS146.alloc | apply IsS146.drewN | apply IsS146.drew | apply IsS146.set_1 | apply IsS146.set_2) | exact HI0.out), by repeat (first | (with_reducible first | exact HB.out | apply below_alloc | apply pw_below_drewN | apply below_drew1 | refine below_set ?_ (IsS146.ge HI0.out)) | exact HB.out), by repeat (first | (with_reducible first | exact HK.out | apply KeepBut.set_ | apply keep_drewN | apply keep_drew | apply keep_alloc) | exact HK.out)⟩
    · rw [if_neg c3] at H
      exact absurd H (by simp)
  · rw [if_neg c2] at H
    have c2b0 : decide (s0_1 < (s0_0.length : Int)) = false := decide_eq_false c2
    clear c2
    simp only [Option.some.injEq, Prod.mk.injEq] at H
    obtain ⟨rfl, rfl, rfl⟩ := H
    obtain ⟨ASz5_0, cSz5_0, HGz5, hgz5, HSz5_0⟩ := HI0.out
    have hcz5_0 := cellS146_0 HGz5
    have hcz5_1 := cellS146_1 HGz5
    have hcz5_2 := cellS146_2 HGz5
    have hfz5_1 := blk_frozen HGz5 1
    have hfz5_2 := blk_frozen HGz5 2
    clear HGz5 hgz5
    go_enter Try.func114, Try.ntmps114
    go_wp2
    repeat (go_quiet (fail); try go_wp2)
    go_ret
    exact ⟨er_, by repeat (first | (with_reducible first | exact HI0.out | apply IsS146.alloc | apply IsS146.drewN | apply IsS146.drew | apply IsS146.set_1 | apply IsS146.set_2) | exact HI0.out), by repeat (first | (with_reducible first | exact HB.out | apply below_alloc | apply pw_below_drewN | apply below_drew1 | refine below_set ?_ (IsS146.ge HI0.out)) | exact HB.out), by repeat (first | (with_reducible first | exact HK.out | apply KeepBut.set_ | apply keep_drewN | apply keep_drew | apply keep_alloc) | exact HK.out)⟩
def spec_l1Below.f (s0_0 : List Int) (s0_1 : Int) (s0_2 : Int) (a1 : Int) : Option (Int × Int × Int) := if a1 ≤ 0 then (some (0, s0_1, s0_2)) else (if a1 ≤ 256 then ((spec_l1Byte.f s0_0 s0_1 s0_2).bind fun bt272 => (if a1 = 0 then (none) else (some (Int.tmod bt272.1 a1, bt272.2.1, bt272.2.2)))) else ((spec_l1Byte.f s0_0 s0_1 s0_2).bind fun bt275 => ((spec_l1Byte.f s0_0 bt275.2.1 bt275.2.2).bind fun bt278 => ((spec_l1Byte.f s0_0 bt278.2.1 bt278.2.2).bind fun bt281 => ((spec_l1Byte.f s0_0 bt281.2.1 bt281.2.2).bind fun bt284 => (if a1 = 0 then (none) else (some (Int.tmod (wrap64 ((wrap64 ((wrap64 ((wrap64 (bt275.1 * 16777216)) + (wrap64 (bt278.1 * 65536)))) + (wrap64 (bt281.1 * 256)))) + bt284.1)) a1, bt284.2.1, bt284.2.2))))))))
set_option maxHeartbeats 8000000 in
set_option maxRecDepth 100000 in
theorem spec_l1Below.calls (g : Nat) (s0_0 : List Int) (s0_1 : Int) (s0_2 : Int) (a1 : Int) (r1 : Int) (r2 : Int) (r3 : Int) (w0 w : World) (hI : IsS146 w0 w g s0_0 s0_1 s0_2) (hB : Below w0.heap.size w0 w) (h : spec_l1Below.f s0_0 s0_1 s0_2 a1 = some (r1, r2, r3)) :
    Calls Try.prog 72 #[.pointer (some ⟨g, 0, none⟩), .int .i64 a1] w fun e w' => e = .returned (.int .i64 r1) ∧ IsS146 w0 w' g s0_0 r2 r3 ∧ Below w0.heap.size w0 w' ∧ KeepBut w w' g none := by
  have HI0 := Aside0.mk hI
  have HK := Aside0.mk (KeepBut.refl w g none)
  have HL := Aside0.mk hB.size
  clear hI
  have HW0 := Aside0.mk hB.size
  have HB := Aside0.mk hB
  clear hB
  have H : (if a1 ≤ 0 then (some (0, s0_1, s0_2)) else (if a1 ≤ 256 then ((spec_l1Byte.f s0_0 s0_1 s0_2).bind fun bt272 => (if a1 = 0 then (none) else (some (Int.tmod bt272.1 a1, bt272.2.1, bt272.2.2)))) else ((spec_l1Byte.f s0_0 s0_1 s0_2).bind fun bt275 => ((spec_l1Byte.f s0_0 bt275.2.1 bt275.2.2).bind fun bt278 => ((spec_l1Byte.f s0_0 bt278.2.1 bt278.2.2).bind fun bt281 => ((spec_l1Byte.f s0_0 bt281.2.1 bt281.2.2).bind fun bt284 => (if a1 = 0 then (none) else (some (Int.tmod (wrap64 ((wrap64 ((wrap64 ((wrap64 (bt275.1 * 16777216)) + (wrap64 (bt278.1 * 65536)))) + (wrap64 (bt281.1 * 256)))) + bt284.1)) a1, bt284.2.1, bt284.2.2))))))))) = some (r1, r2, r3) := h
  clear h
  by_cases c3 : a1 ≤ 0
  · rw [if_pos c3] at H
    have c3b0 : decide (a1 ≤ 0) = true := decide_eq_true c3
    clear c3
    simp only [Option.some.injEq, Prod.mk.injEq] at H
    obtain ⟨rfl, rfl, rfl⟩ := H
    go_enter Try.func72, Try.ntmps72
    go_wp2
    go_ret
    exact ⟨er_, by repeat (first | (with_reducible first | exact HI0.out | apply IsS146.alloc | apply IsS146.drewN | apply IsS146.drew | apply IsS146.set_1 | apply IsS146.set_2) | exact HI0.out), by repeat (first | (with_reducible first | exact HB.out | apply below_alloc | apply pw_below_drewN | apply below_drew1 | refine below_set ?_ (IsS146.ge HI0.out)) | exact HB.out), by repeat (first | (with_reducible first | exact HK.out | apply KeepBut.set_ | apply keep_drewN | apply keep_drew | apply keep_alloc) | exact HK.out)⟩
  · rw [if_neg c3] at H
    have c3b0 : decide (a1 ≤ 0) = false := decide_eq_false c3
    clear c3
    by_cases c4 : a1 ≤ 256
    · rw [if_pos c4] at H
      have c4b0 : decide (a1 ≤ 256) = true := decide_eq_true c4
      clear c4
      replace H := Option.bind_eq_some_iff.mp H
      obtain ⟨⟨t272, t273, t274⟩, A50, H⟩ := H
      replace H : (if a1 = 0 then (none) else (some (Int.tmod t272 a1, t273, t274))) = some (r1, r2, r3) := H
      have A5 := Aside0.mk A50
      clear A50
      by_cases c6 : a1 = 0
      · rw [if_pos c6] at H
        exact absurd H (by simp)
      · rw [if_neg c6] at H
        have c6b0 : (a1 == 0) = false := beq_eq_false_iff_ne.mpr c6
        have c6b1 : (a1 != 0) = true := bne_iff_ne.mpr c6
        simp only [Option.some.injEq, Prod.mk.injEq] at H
        obtain ⟨rfl, rfl, rfl⟩ := H
        go_enter Try.func72, Try.ntmps72
        go_wp2_with (first | ((with_reducible refine gate_callee (f := 114) rfl ?_); refine goesL_ (some 14) rfl rfl Try.func114 (by kernel_rfl) rfl #[.pointer (some ⟨g, 0, none⟩)] rfl arr_ ?_; (with_reducible refine (spec_l1Byte.calls g s0_0 s0_1 s0_2 t272 t273 t274 w0 _ ?side1 ?side2 A5.out).mono ?_); (case side1 => repeat (first | (with_reducible first | exact HI0.out | apply IsS146.alloc | apply IsS146.drewN | apply IsS146.drew | apply IsS146.set_1 | apply IsS146.set_2) | exact HI0.out)); (case side2 => repeat (first | (with_reducible first | exact HB.out | apply below_alloc | apply pw_below_drewN | apply below_drew1 | refine below_set ?_ (IsS146.ge HI0.out)) | exact HB.out)); rintro e w7 ⟨rfl, hi, hb, hk⟩; refine ⟨_, rfl, ?_⟩; have n0_ := Aside0.mk (KeepBut.trans (by repeat (first | (with_reducible first | exact HK.out | apply KeepBut.set_ | apply keep_drewN | apply keep_drew | apply keep_alloc) | exact HK.out)) hk (.inl rfl)); have n1_ := Aside0.mk (hb); have n2_ := Aside0.mk (hi); clear HK; clear HB; clear HI0; have HK := n0_; have HB := n1_; have HI0 := n2_; clear n0_ n1_ n2_; (try clear hb); (try clear hb2); (try clear hk); (try clear hi)))
        go_ret
        exact ⟨er_, by repeat (first | (with_reducible first | exact HI0.out | apply IsS146.alloc | apply IsS146.drewN | apply IsS146.drew | apply IsS146.set_1 | apply IsS146.set_2) | exact HI0.out), by repeat (first | (with_reducible first | exact HB.out | apply below_alloc | apply pw_below_drewN | apply below_drew1 | refine below_set ?_ (IsS146.ge HI0.out)) | exact HB.out), by repeat (first | (with_reducible first | exact HK.out | apply KeepBut.set_ | apply keep_drewN | apply keep_drew | apply keep_alloc) | exact HK.out)⟩
    · rw [if_neg c4] at H
      have c4b0 : decide (a1 ≤ 256) = false := decide_eq_false c4
      clear c4
      replace H := Option.bind_eq_some_iff.mp H
      obtain ⟨⟨t275, t276, t277⟩, A80, H⟩ := H
      replace H : ((spec_l1Byte.f s0_0 t276 t277).bind fun bt278 => ((spec_l1Byte.f s0_0 bt278.2.1 bt278.2.2).bind fun bt281 => ((spec_l1Byte.f s0_0 bt281.2.1 bt281.2.2).bind fun bt284 => (if a1 = 0 then (none) else (some (Int.tmod (wrap64 ((wrap64 ((wrap64 ((wrap64 (t275 * 16777216)) + (wrap64 (bt278.1 * 65536)))) + (wrap64 (bt281.1 * 256)))) + bt284.1)) a1, bt284.2.1, bt284.2.2)))))) = some (r1, r2, r3) := H
      have A8 := Aside0.mk A80
      clear A80
      replace H := Option.bind_eq_some_iff.mp H
      obtain ⟨⟨t278, t279, t280⟩, A90, H⟩ := H
      replace H : ((spec_l1Byte.f s0_0 t279 t280).bind fun bt281 => ((spec_l1Byte.f s0_0 bt281.2.1 bt281.2.2).bind fun bt284 => (if a1 = 0 then (none) else (some (Int.tmod (wrap64 ((wrap64 ((wrap64 ((wrap64 (t275 * 16777216)) + (wrap64 (t278 * 65536)))) + (wrap64 (bt281.1 * 256)))) + bt284.1)) a1, bt284.2.1, bt284.2.2))))) = some (r1, r2, r3) := H
      have A9 := Aside0.mk A90
      clear A90
      replace H := Option.bind_eq_some_iff.mp H
      obtain ⟨⟨t281, t282, t283⟩, A100, H⟩ := H
      replace H : ((spec_l1Byte.f s0_0 t282 t283).bind fun bt284 => (if a1 = 0 then (none) else (some (Int.tmod (wrap64 ((wrap64 ((wrap64 ((wrap64 (t275 * 16777216)) + (wrap64 (t278 * 65536)))) + (wrap64 (t281 * 256)))) + bt284.1)) a1, bt284.2.1, bt284.2.2)))) = some (r1, r2, r3) := H
      have A10 := Aside0.mk A100
      clear A100
      replace H := Option.bind_eq_some_iff.mp H
      obtain ⟨⟨t284, t285, t286⟩, A110, H⟩ := H
      replace H : (if a1 = 0 then (none) else (some (Int.tmod (wrap64 ((wrap64 ((wrap64 ((wrap64 (t275 * 16777216)) + (wrap64 (t278 * 65536)))) + (wrap64 (t281 * 256)))) + t284)) a1, t285, t286))) = some (r1, r2, r3) := H
      have A11 := Aside0.mk A110
      clear A110
      by_cases c12 : a1 = 0
      · rw [if_pos c12] at H
        exact absurd H (by simp)
      · rw [if_neg c12] at H
        have c12b0 : (a1 == 0) = false := beq_eq_false_iff_ne.mpr c12
        have c12b1 : (a1 != 0) = true := bne_iff_ne.mpr c12
        simp only [Option.some.injEq, Prod.mk.injEq] at H
        obtain ⟨rfl, rfl, rfl⟩ := H
        go_enter Try.func72, Try.ntmps72
        go_wp2_with (first | ((with_reducible refine gate_callee (f := 114) rfl ?_); refine goesL_ (some 18) rfl rfl Try.func114 (by kernel_rfl) rfl #[.pointer (some ⟨g, 0, none⟩)] rfl arr_ ?_; (with_reducible refine (spec_l1Byte.calls g s0_0 s0_1 s0_2 t275 t276 t277 w0 _ ?side1 ?side2 A8.out).mono ?_); (case side1 => repeat (first | (with_reducible first | exact HI0.out | apply IsS146.alloc | apply IsS146.drewN | apply IsS146.drew | apply IsS146.set_1 | apply IsS146.set_2) | exact HI0.out)); (case side2 => repeat (first | (with_reducible first | exact HB.out | apply below_alloc | apply pw_below_drewN | apply below_drew1 | refine below_set ?_ (IsS146.ge HI0.out)) | exact HB.out)); rintro e w13 ⟨rfl, hi, hb, hk⟩; refine ⟨_, rfl, ?_⟩; have n0_ := Aside0.mk (KeepBut.trans (by repeat (first | (with_reducible first | exact HK.out | apply KeepBut.set_ | apply keep_drewN | apply keep_drew | apply keep_alloc) | exact HK.out)) hk (.inl rfl)); have n1_ := Aside0.mk (hb); have n2_ := Aside0.mk (hi); clear HK; clear HB; clear HI0; have HK := n0_; have HB := n1_; have HI0 := n2_; clear n0_ n1_ n2_; (try clear hb); (try clear hb2); (try clear hk); (try clear hi)) | ((with_reducible refine gate_callee (f := 114) rfl ?_); refine goesL_ (some 20) rfl rfl Try.func114 (by kernel_rfl) rfl #[.pointer (some ⟨g, 0, none⟩)] rfl arr_ ?_; (with_reducible refine (spec_l1Byte.calls g s0_0 t276 t277 t278 t279 t280 w0 _ ?side1 ?side2 A9.out).mono ?_); (case side1 => repeat (first | (with_reducible first | exact HI0.out | apply IsS146.alloc | apply IsS146.drewN | apply IsS146.drew | apply IsS146.set_1 | apply IsS146.set_2) | exact HI0.out)); (case side2 => repeat (first | (with_reducible first | exact HB.out | apply below_alloc | apply pw_below_drewN | apply below_drew1 | refine below_set ?_ (IsS146.ge HI0.out)) | exact HB.out)); rintro e w14 ⟨rfl, hi, hb, hk⟩; refine ⟨_, rfl, ?_⟩; have n0_ := Aside0.mk (KeepBut.trans (by repeat (first | (with_reducible first | exact HK.out | apply KeepBut.set_ | apply keep_drewN | apply keep_drew | apply keep_alloc) | exact HK.out)) hk (.inl rfl)); have n1_ := Aside0.mk (hb); have n2_ := Aside0.mk (hi); clear HK; clear HB; clear HI0; have HK := n0_; have HB := n1_; have HI0 := n2_; clear n0_ n1_ n2_; (try clear hb); (try clear hb2); (try clear hk); (try clear hi)) | ((with_reducible refine gate_callee (f := 114) rfl ?_); refine goesL_ (some 22) rfl rfl Try.func114 (by kernel_rfl) rfl #[.pointer (some ⟨g, 0, none⟩)] rfl arr_ ?_; (with_reducible refine (spec_l1Byte.calls g s0_0 t279 t280 t281 t282 t283 w0 _ ?side1 ?side2 A10.out).mono ?_); (case side1 => repeat (first | (with_reducible first | exact HI0.out | apply IsS146.alloc | apply IsS146.drewN | apply IsS146.drew | apply IsS146.set_1 | apply IsS146.set_2) | exact HI0.out)); (case side2 => repeat (first | (with_reducible first | exact HB.out | apply below_alloc | apply pw_below_drewN | apply below_drew1 | refine below_set ?_ (IsS146.ge HI0.out)) | exact HB.out)); rintro e w15 ⟨rfl, hi, hb, hk⟩; refine ⟨_, rfl, ?_⟩; have n0_ := Aside0.mk (KeepBut.trans (by repeat (first | (with_reducible first | exact HK.out | apply KeepBut.set_ | apply keep_drewN | apply keep_drew | apply keep_alloc) | exact HK.out)) hk (.inl rfl)); have n1_ := Aside0.mk (hb); have n2_ := Aside0.mk (hi); clear HK; clear HB; clear HI0; have HK := n0_; have HB := n1_; have HI0 := n2_; clear n0_ n1_ n2_; (try clear hb); (try clear hb2); (try clear hk); (try clear hi)) | ((with_reducible refine gate_callee (f := 114) rfl ?_); refine goesL_ (some 24) rfl rfl Try.func114 (by kernel_rfl) rfl #[.pointer (some ⟨g, 0, none⟩)] rfl arr_ ?_; (with_reducible refine (spec_l1Byte.calls g s0_0 t282 t283 t284 t285 t286 w0 _ ?side1 ?side2 A11.out).mono ?_); (case side1 => repeat (first | (with_reducible first | exact HI0.out | apply IsS146.alloc | apply IsS146.drewN | apply IsS146.drew | apply IsS146.set_1 | apply IsS146.set_2) | exact HI0.out)); (case side2 => repeat (first | (with_reducible first | exact HB.out | apply below_alloc | apply pw_below_drewN | apply below_drew1 | refine below_set ?_ (IsS146.ge HI0.out)) | exact HB.out)); rintro e w16 ⟨rfl, hi, hb, hk⟩; refine ⟨_, rfl, ?_⟩; have n0_ := Aside0.mk (KeepBut.trans (by repeat (first | (with_reducible first | exact HK.out | apply KeepBut.set_ | apply keep_drewN | apply keep_drew | apply keep_alloc) | exact HK.out)) hk (.inl rfl)); have n1_ := Aside0.mk (hb); have n2_ := Aside0.mk (hi); clear HK; clear HB; clear HI0; have HK := n0_; have HB := n1_; have HI0 := n2_; clear n0_ n1_ n2_; (try clear hb); (try clear hb2); (try clear hk); (try clear hi)))
        go_ret
        exact ⟨er_, by repeat (first | (with_reducible first | exact HI0.out | apply IsS146.alloc | apply IsS146.drewN | apply IsS146.drew | apply IsS146.set_1 | apply IsS146.set_2) | exact HI0.out), by repeat (first | (with_reducible first | exact HB.out | apply below_alloc | apply pw_below_drewN | apply below_drew1 | refine below_set ?_ (IsS146.ge HI0.out)) | exact HB.out), by repeat (first | (with_reducible first | exact HK.out | apply KeepBut.set_ | apply keep_drewN | apply keep_drew | apply keep_alloc) | exact HK.out)⟩
def spec_l1Once.f (s0_0 : List Int) (s0_1 : Int) (s0_2 : Int) (a1 : Int) : Option (Bool × Int × Int) := (spec_l1Below.f s0_0 s0_1 s0_2 a1).bind fun bt338 => (some ((bt338.1 == 0), bt338.2.1, bt338.2.2))
set_option maxHeartbeats 8000000 in
set_option maxRecDepth 100000 in
theorem spec_l1Once.calls (g : Nat) (s0_0 : List Int) (s0_1 : Int) (s0_2 : Int) (a1 : Int) (r1 : Bool) (r2 : Int) (r3 : Int) (w0 w : World) (hI : IsS146 w0 w g s0_0 s0_1 s0_2) (hB : Below w0.heap.size w0 w) (h : spec_l1Once.f s0_0 s0_1 s0_2 a1 = some (r1, r2, r3)) :
    Calls Try.prog 74 #[.pointer (some ⟨g, 0, none⟩), .int .i64 a1] w fun e w' => e = .returned (.bool r1) ∧ IsS146 w0 w' g s0_0 r2 r3 ∧ Below w0.heap.size w0 w' ∧ KeepBut w w' g none := by
  have HI0 := Aside0.mk hI
  have HK := Aside0.mk (KeepBut.refl w g none)
  have HL := Aside0.mk hB.size
  clear hI
  have HW0 := Aside0.mk hB.size
  have HB := Aside0.mk hB
  clear hB
  have H : ((spec_l1Below.f s0_0 s0_1 s0_2 a1).bind fun bt338 => (some ((bt338.1 == 0), bt338.2.1, bt338.2.2))) = some (r1, r2, r3) := h
  clear h
  replace H := Option.bind_eq_some_iff.mp H
  obtain ⟨⟨t338, t339, t340⟩, A30, H⟩ := H
  replace H : (some ((t338 == 0), t339, t340)) = some (r1, r2, r3) := H
  have A3 := Aside0.mk A30
  clear A30
  simp only [Option.some.injEq, Prod.mk.injEq] at H
  obtain ⟨rfl, rfl, rfl⟩ := H
  go_enter Try.func74, Try.ntmps74
  go_wp2_with (first | ((with_reducible refine gate_callee (f := 72) rfl ?_); refine goesL_ (some 7) rfl rfl Try.func72 (by kernel_rfl) rfl #[.pointer (some ⟨g, 0, none⟩), .int .i64 a1] rfl arr_ ?_; (with_reducible refine (spec_l1Below.calls g s0_0 s0_1 s0_2 a1 t338 t339 t340 w0 _ ?side1 ?side2 A3.out).mono ?_); (case side1 => repeat (first | (with_reducible first | exact HI0.out | apply IsS146.alloc | apply IsS146.drewN | apply IsS146.drew | apply IsS146.set_1 | apply IsS146.set_2) | exact HI0.out)); (case side2 => repeat (first | (with_reducible first | exact HB.out | apply below_alloc | apply pw_below_drewN | apply below_drew1 | refine below_set ?_ (IsS146.ge HI0.out)) | exact HB.out)); rintro e w4 ⟨rfl, hi, hb, hk⟩; refine ⟨_, rfl, ?_⟩; have n0_ := Aside0.mk (KeepBut.trans (by repeat (first | (with_reducible first | exact HK.out | apply KeepBut.set_ | apply keep_drewN | apply keep_drew | apply keep_alloc) | exact HK.out)) hk (.inl rfl)); have n1_ := Aside0.mk (hb); have n2_ := Aside0.mk (hi); clear HK; clear HB; clear HI0; have HK := n0_; have HB := n1_; have HI0 := n2_; clear n0_ n1_ n2_; (try clear hb); (try clear hb2); (try clear hk); (try clear hi)))
  go_ret
  exact ⟨er_, by repeat (first | (with_reducible first | exact HI0.out | apply IsS146.alloc | apply IsS146.drewN | apply IsS146.drew | apply IsS146.set_1 | apply IsS146.set_2) | exact HI0.out), by repeat (first | (with_reducible first | exact HB.out | apply below_alloc | apply pw_below_drewN | apply below_drew1 | refine below_set ?_ (IsS146.ge HI0.out)) | exact HB.out), by repeat (first | (with_reducible first | exact HK.out | apply KeepBut.set_ | apply keep_drewN | apply keep_drew | apply keep_alloc) | exact HK.out)⟩
def spec_l1PickInt.f (s0_0 : List Int) (s0_1 : Int) (s0_2 : Int) (l1 : List Int) : Option (Int × Int × Int) := (spec_l1Below.f s0_0 s0_1 s0_2 (l1.length : Int)).bind fun bt287 => (if 0 ≤ bt287.1 then (if bt287.1 < (l1.length : Int) then (some (rd l1 bt287.1, bt287.2.1, bt287.2.2)) else (none)) else (none))
set_option maxHeartbeats 8000000 in
set_option maxRecDepth 100000 in
theorem spec_l1PickInt.calls (g : Nat) (s0_0 : List Int) (s0_1 : Int) (s0_2 : Int) (A1 : Option Addr) (c1 : Nat) (l1 : List Int) (r1 : Int) (r2 : Int) (r3 : Int) (w0 w : World) (hI : IsS146 w0 w g s0_0 s0_1 s0_2) (hB : Below w0.heap.size w0 w) (hr1 : Kd.C (Kd.int .i64) w A1 l1.length l1) (hc1 : l1.length ≤ c1) (hf1 : ∀ ad, A1 = some ad → 0 < l1.length → ad.block ≠ g) (h : spec_l1PickInt.f s0_0 s0_1 s0_2 l1 = some (r1, r2, r3)) :
    Calls Try.prog 112 #[.pointer (some ⟨g, 0, none⟩), .slice A1 l1.length c1] w fun e w' => e = .returned (.int .i64 r1) ∧ IsS146 w0 w' g s0_0 r2 r3 ∧ Below w0.heap.size w0 w' ∧ KeepBut w w' g none := by
  have HR1 := Aside0.mk hr1
  have HC1 := Aside0.mk hc1
  clear hr1 hc1
  have HI0 := Aside0.mk hI
  have HK := Aside0.mk (KeepBut.refl w g none)
  have HL := Aside0.mk hB.size
  clear hI
  have HW0 := Aside0.mk hB.size
  have HB := Aside0.mk hB
  clear hB
  have H : ((spec_l1Below.f s0_0 s0_1 s0_2 (l1.length : Int)).bind fun bt287 => (if 0 ≤ bt287.1 then (if bt287.1 < (l1.length : Int) then (some (rd l1 bt287.1, bt287.2.1, bt287.2.2)) else (none)) else (none))) = some (r1, r2, r3) := h
  clear h
  replace H := Option.bind_eq_some_iff.mp H
  obtain ⟨⟨t287, t288, t289⟩, A30, H⟩ := H
  replace H : (if 0 ≤ t287 then (if t287 < (l1.length : Int) then (some (rd l1 t287, t288, t289)) else (none)) else (none)) = some (r1, r2, r3) := H
  have A3 := Aside0.mk A30
  clear A30
  by_cases c4 : 0 ≤ t287
  · rw [if_pos c4] at H
    have c4b0 : decide (0 ≤ t287) = true := decide_eq_true c4
    clear c4
    by_cases c5 : t287 < (l1.length : Int)
    · rw [if_pos c5] at H
      have c5b0 : decide (t287 < (l1.length : Int)) = true := decide_eq_true c5
      clear c5
      simp only [Option.some.injEq, Prod.mk.injEq] at H
      obtain ⟨rfl, rfl, rfl⟩ := H
      go_enter Try.func112, Try.ntmps112
      go_wp2_with (first | ((with_reducible refine gate_callee (f := 72) rfl ?_); refine goesL_ (some 9) rfl rfl Try.func72 (by kernel_rfl) rfl #[.pointer (some ⟨g, 0, none⟩), .int .i64 (l1.length : Int)] rfl arr_ ?_; (with_reducible refine (spec_l1Below.calls g s0_0 s0_1 s0_2 (l1.length : Int) t287 t288 t289 w0 _ ?side1 ?side2 A3.out).mono ?_); (case side1 => repeat (first | (with_reducible first | exact HI0.out | apply IsS146.alloc | apply IsS146.drewN | apply IsS146.drew | apply IsS146.set_1 | apply IsS146.set_2) | exact HI0.out)); (case side2 => repeat (first | (with_reducible first | exact HB.out | apply below_alloc | apply pw_below_drewN | apply below_drew1 | refine below_set ?_ (IsS146.ge HI0.out)) | exact HB.out)); rintro e w6 ⟨rfl, hi, hb, hk⟩; refine ⟨_, rfl, ?_⟩; have n0_ := Aside0.mk (KeepBut.trans (by repeat (first | (with_reducible first | exact HK.out | apply KeepBut.set_ | apply keep_drewN | apply keep_drew | apply keep_alloc) | exact HK.out)) hk (.inl rfl)); have n1_ := Aside0.mk (hb); have n2_ := Aside0.mk (hi); clear HK; clear HB; clear HI0; have HK := n0_; have HB := n1_; have HI0 := n2_; clear n0_ n1_ n2_; (try clear hb); (try clear hb2); (try clear hk); (try clear hi); have p290 : 0 ≤ (t287 : Int) := of_decide_eq_true (by first | (with_reducible assumption) | assumption); have q290 : t287 < (l1.length : Int) := of_decide_eq_true (by first | (with_reducible assumption) | assumption); obtain ⟨ad290, e290, hx290_0⟩ := Kd.at_int HR1.out t287 p290 q290; cases e290; replace hx290_0 := keep_cell HK.out hx290_0 (by first | (rw [add_block]; exact hf1 _ rfl (by omega)) | exact hf1 _ rfl (by omega) | exact hf1 ad290 rfl (by omega)); replace p290 := eq_true p290; replace q290 := eq_true q290))
      go_ret
      exact ⟨er_, by repeat (first | (with_reducible first | exact HI0.out | apply IsS146.alloc | apply IsS146.drewN | apply IsS146.drew | apply IsS146.set_1 | apply IsS146.set_2) | exact HI0.out), by repeat (first | (with_reducible first | exact HB.out | apply below_alloc | apply pw_below_drewN | apply below_drew1 | refine below_set ?_ (IsS146.ge HI0.out)) | exact HB.out), by repeat (first | (with_reducible first | exact HK.out | apply KeepBut.set_ | apply keep_drewN | apply keep_drew | apply keep_alloc) | exact HK.out)⟩
    · rw [if_neg c5] at H
      exact absurd H (by simp)
  · rw [if_neg c4] at H
    exact absurd H (by simp)
end Go.Proofs.Ytcgdnfaclbnflaa.P
