/- Texts of the seat's proofs, part 1: functions of the program told as plain functions, with their contracts, and what is shown of them. No condition. -/
import Derived.Test.YtcgdnfaclbnflaaUKFR
import Derived.Test.YtcgdnfaclbnflaaProg
import Derived.Below
import Derived.Deep.Draws
import Derived.Deep.AppendLies
import Derived.Maps.AppendAt
import Derived.OwnWalk
import Derived.Laws.BytesArg
import Derived.Laws.MakeOwn
import Derived.Laws.OwnMore
import Derived.Deep.OwnRows
import Derived.Tactics
import Derived.Lib.ConvBytes
import Derived.Laws.Slices
import Derived.WalkKit
import Derived.KernelRfl
import Derived.RowKit3
import Derived.Deep.LoopGhost
import Derived.Deep.QuietTactic
import Derived.BigQuiet
import Derived.WideLaws
import Derived.Deep.DeepCutAuto
import Derived.Deep.CutBlock
import Derived.Deep.RegionHeld3
import Derived.Laws.Rows
import Derived.Lib.AppendStr
import Derived.ArgAppend
import Derived.Laws.IdiomCopy
import Derived.OrdersHeld
import Derived.Laws.BitsLemmas
import Derived.RowKit
set_option linter.unusedVariables false
set_option linter.unusedSimpArgs false
namespace Go.Proofs.Ytcgdnfaclbnflaa.P
open Go.RowKit Go.Proofs.YtcgdnfaclbnflaaW.PrintWords Go.Proofs.YtcgdnfaclbnflaaW.PrintLast Go.Proofs.YtcgdnfaclbnflaaW.PrintMore
attribute [local go_sem] max2_int min2_int max_two min_two max_three min_three max_four min_four
set_option linter.unusedVariables false
set_option linter.unusedSimpArgs false
def errW : Option Int → Value
  | none => .nilIface
  | some c => .iface 0 (.int .i64 c)
theorem errW_none : errW none = .nilIface := rfl
theorem errW_some (c : Int) : errW (some c) = .iface 0 (.int .i64 c) := rfl
theorem info83 : (Try.prog.info? 83).map (fun i => (i.zero, i.size, i.bytes)) = some (some (.agg #[(.bool false), (.int .i64 0), (.int .i64 0)]), 3, 24) := by kernel_rfl
theorem info88 : (Try.prog.info? 88).map (fun i => (i.zero, i.size, i.bytes)) = some (some (.agg #[(.int .i64 0), (.bool false), (.int .i64 0)]), 3, 24) := by kernel_rfl
structure S25 where
  f0 : Int
  f1 : Int
structure S30 where
  f0 : Int
  f1 : Int
structure S124 where
  f0 : Int
  f1 : Int
structure S126 where
  f0 : Bool
  f1 : S124
structure S81 where
  f0 : Int
  f1 : Int
def z81 : S81 := ⟨(0 : Int), (0 : Int)⟩
def k81 : Kd S81 := Kd.iso (Kd.pair (Kd.int .i64) (Kd.int .i64)) (fun x : S81 => (x.f0, x.f1))
theorem k81_open {w : World} {x : S81} {cs : List Value} (h : k81.K w x cs) : cs = [.int .i64 x.f0, .int .i64 x.f1] := by
  obtain ⟨_, _, rfl, rfl, rfl⟩ := h
  exact rfl
theorem k81_mkM (w : World) (base : Nat) (ok : Nat → Prop) (x : S81)  : k81.M w base ok x [.int .i64 x.f0, .int .i64 x.f1] := ⟨[.int .i64 x.f0], [.int .i64 x.f1], rfl, rfl, rfl⟩
structure S83 where
  f0 : Bool
  f1 : S81
def z83 : S83 := ⟨false, z81⟩
def k83 : Kd S83 := Kd.iso (Kd.pair Kd.bool k81) (fun x : S83 => (x.f0, x.f1))
theorem k83_open {w : World} {x : S83} {cs : List Value} (h : k83.K w x cs) : cs = [.bool x.f0, .int .i64 x.f1.f0, .int .i64 x.f1.f1] := by
  obtain ⟨_, _, rfl, rfl, s1⟩ := h
  obtain rfl := k81_open s1
  exact rfl
theorem k83_mkM (w : World) (base : Nat) (ok : Nat → Prop) (x : S83)  : k83.M w base ok x [.bool x.f0, .int .i64 x.f1.f0, .int .i64 x.f1.f1] := ⟨[.bool x.f0], [.int .i64 x.f1.f0, .int .i64 x.f1.f1], rfl, rfl, (k81_mkM w base ok x.f1 )⟩
def rd_T83 (xs : List S83) (i : Int) : S83 := xs.getD i.toNat z83
theorem at_T83 {w : World} {A : Option Addr} {n : Nat} {xs : List S83} (h : Kd.C k83 w A n xs) (i : Int) (h0 : 0 ≤ i) (h1 : i < n) : ∃ ad , A = some ad ∧ w.cell? (ad.add (i.toNat * 3)) = some (.bool (rd_T83 xs i).f0) ∧ w.cell? ⟨(ad.add (i.toNat * 3)).block, (ad.add (i.toNat * 3)).off + 1, none⟩ = some (.int .i64 (rd_T83 xs i).f1.f0) ∧ w.cell? ⟨(ad.add (i.toNat * 3)).block, (ad.add (i.toNat * 3)).off + 2, none⟩ = some (.int .i64 (rd_T83 xs i).f1.f1) := by
  obtain ⟨ad, c, e, _, hK, hc0⟩ := Kd.C_get h z83 i h0 h1
  have hc : ∀ j u, c[j]? = some u → w.cell? (ad.add (i.toNat * 3 + j)) = some u := hc0
  obtain rfl := k83_open hK
  exact ⟨ad, e, hc 0 _ rfl, by rw [← add_field _ _ 1 (by omega)]; exact hc 1 _ rfl, by rw [← add_field _ _ 2 (by omega)]; exact hc 2 _ rfl⟩
structure S88 where
  f0 : Int
  f1 : Bool
  f2 : Int
def z88 : S88 := ⟨(0 : Int), false, (0 : Int)⟩
def k88 : Kd S88 := Kd.iso (Kd.pair (Kd.int .i64) (Kd.pair Kd.bool (Kd.int .i64))) (fun x : S88 => (x.f0, x.f1, x.f2))
theorem k88_open {w : World} {x : S88} {cs : List Value} (h : k88.K w x cs) : cs = [.int .i64 x.f0, .bool x.f1, .int .i64 x.f2] := by
  obtain ⟨_, _, rfl, rfl, ⟨_, _, rfl, rfl, rfl⟩⟩ := h
  exact rfl
theorem k88_mkM (w : World) (base : Nat) (ok : Nat → Prop) (x : S88)  : k88.M w base ok x [.int .i64 x.f0, .bool x.f1, .int .i64 x.f2] := ⟨[.int .i64 x.f0], [.bool x.f1, .int .i64 x.f2], rfl, rfl, ⟨[.bool x.f1], [.int .i64 x.f2], rfl, rfl, rfl⟩⟩
def rd_T88 (xs : List S88) (i : Int) : S88 := xs.getD i.toNat z88
theorem at_T88 {w : World} {A : Option Addr} {n : Nat} {xs : List S88} (h : Kd.C k88 w A n xs) (i : Int) (h0 : 0 ≤ i) (h1 : i < n) : ∃ ad , A = some ad ∧ w.cell? (ad.add (i.toNat * 3)) = some (.int .i64 (rd_T88 xs i).f0) ∧ w.cell? ⟨(ad.add (i.toNat * 3)).block, (ad.add (i.toNat * 3)).off + 1, none⟩ = some (.bool (rd_T88 xs i).f1) ∧ w.cell? ⟨(ad.add (i.toNat * 3)).block, (ad.add (i.toNat * 3)).off + 2, none⟩ = some (.int .i64 (rd_T88 xs i).f2) := by
  obtain ⟨ad, c, e, _, hK, hc0⟩ := Kd.C_get h z88 i h0 h1
  have hc : ∀ j u, c[j]? = some u → w.cell? (ad.add (i.toNat * 3 + j)) = some u := hc0
  obtain rfl := k88_open hK
  exact ⟨ad, e, hc 0 _ rfl, by rw [← add_field _ _ 1 (by omega)]; exact hc 1 _ rfl, by rw [← add_field _ _ 2 (by omega)]; exact hc 2 _ rfl⟩
structure S153 where
  f0 : Int
  f1 : Int
  f2 : Int
  f3 : ByteArray
  f4 : Int
structure S137 where
  f0 : Int
  f1 : Int
  f2 : Int
  f3 : ByteArray
  f4 : Int
def laws_big.f (l0 : List Int) : Option (Bool) := some (decide ((l0.length : Int) > 1048576))
set_option maxHeartbeats 8000000 in
set_option maxRecDepth 100000 in
theorem laws_big.calls (A0 : Option Addr) (c0 : Nat) (l0 : List Int) (r : Bool) (w : World) (hr0 : Kd.C (Kd.int .u8) w A0 l0.length l0) (hc0 : l0.length ≤ c0) (h : laws_big.f l0 = some r) :
    Calls Try.prog 25 #[.slice A0 l0.length c0] w fun e w' => e = .returned (.bool r) ∧ Drawn0 w w' := by
  have HR0 := Aside0.mk hr0
  have HC0 := Aside0.mk hc0
  clear hr0 hc0
  have H : (some (decide ((l0.length : Int) > 1048576))) = some r := h
  clear h
  obtain rfl := Option.some.inj H
  go_enter Try.func25, Try.ntmps25
  go_wp2
  go_ret
  exact ⟨by first | rfl | (simp; done) | (simp [*]; done), by repeat (first | exact Drawn0.refl _ | apply Drawn0.step)⟩
def impl_in.f (a0 : Int) (a1 : Int) (a2 : Int) : Option (Bool) := if a1 ≤ a0 then (some (decide (a0 ≤ a2))) else (some false)
set_option maxHeartbeats 8000000 in
set_option maxRecDepth 100000 in
theorem impl_in.calls (a0 : Int) (a1 : Int) (a2 : Int) (r : Bool) (w : World) (h : impl_in.f a0 a1 a2 = some r) :
    Calls Try.prog 67 #[.int .i64 a0, .int .i64 a1, .int .i64 a2] w fun e w' => e = .returned (.bool r) ∧ Drawn0 w w' := by
  have H : (if a1 ≤ a0 then (some (decide (a0 ≤ a2))) else (some false)) = some r := h
  clear h
  by_cases c4 : a1 ≤ a0
  · rw [if_pos c4] at H
    have c4b0 : decide (a1 ≤ a0) = true := decide_eq_true c4
    clear c4
    obtain rfl := Option.some.inj H
    go_enter Try.func67, Try.ntmps67
    go_wp2
    go_ret
    exact ⟨by first | rfl | (simp; done) | (simp [*]; done), by repeat (first | exact Drawn0.refl _ | apply Drawn0.step)⟩
  · rw [if_neg c4] at H
    have c4b0 : decide (a1 ≤ a0) = false := decide_eq_false c4
    clear c4
    obtain rfl := Option.some.inj H
    go_enter Try.func67, Try.ntmps67
    go_wp2
    go_ret
    exact ⟨by first | rfl | (simp; done) | (simp [*]; done), by repeat (first | exact Drawn0.refl _ | apply Drawn0.step)⟩
def impl_AppOk.f (a0_0 : Bool) (a0_1 : Int) : Option (Bool) := (impl_in.f a0_1 (-1000000000000) 1000000000000).bind fun t578 => (if t578 = true then (if a0_0 = true then (some true) else (some (a0_1 == 0))) else (some false))
set_option maxHeartbeats 8000000 in
set_option maxRecDepth 100000 in
theorem impl_AppOk.calls (a0_0 : Bool) (a0_1 : Int) (r : Bool) (w : World) (h : impl_AppOk.f a0_0 a0_1 = some r) :
    Calls Try.prog 51 #[.agg #[.bool a0_0, .int .i64 a0_1]] w fun e w' => e = .returned (.bool r) ∧ Below w.heap.size w w' := by
  have hu66 := Try.underlying66
  have HB := Aside0.mk (Below.refl w.heap.size w)
  have H : ((impl_in.f a0_1 (-1000000000000) 1000000000000).bind fun t578 => (if t578 = true then (if a0_0 = true then (some true) else (some (a0_1 == 0))) else (some false))) = some r := h
  clear h
  replace H := Option.bind_eq_some_iff.mp H
  obtain ⟨t578, A20, H⟩ := H
  replace H : (if t578 = true then (if a0_0 = true then (some true) else (some (a0_1 == 0))) else (some false)) = some r := H
  have A2 := Aside0.mk A20
  clear A20
  by_cases c3 : t578 = true
  · subst c3
    have H1 : (if a0_0 = true then (some true) else (some (a0_1 == 0))) = some r := by rw [if_pos rfl] at H; exact H
    clear H
    have H := H1
    clear H1
    by_cases c4 : a0_0 = true
    · subst c4
      have H1 : (some true) = some r := by rw [if_pos rfl] at H; exact H
      clear H
      have H := H1
      clear H1
      obtain rfl := Option.some.inj H
      go_enter Try.func51, Try.ntmps51
      go_wp2_with (first | ((with_reducible refine gate_dst (N := 1) rfl ?_); refine box_event ?hg (N := 1) ?hd (cs := #[.bool true, .int .i64 a0_1]) (t := 66) ?hr ?_; (case hd => rfl); (case hg => rfl); (case hr => first | (go_simp; done) | (go_simp; rfl)); intro gb577 hg w5 hbox hb; have n0_ := Aside0.mk (below_step (hb_ HB.out) hb); have n1_ := Aside0.mk (hbox); have n2_ := Aside0.mk ((by rw [hg]; exact (below_size (hb_ HB.out)) : w.heap.size ≤ gb577)); have n3_ := Aside0.mk ((by rw [hg]; exact (below_size (hb_ HB.out)) : w.heap.size ≤ gb577)); clear HB; have HB := n0_; have BK577 := n1_; have GW577 := n2_; have GE577 := n3_; clear n0_ n1_ n2_ n3_; clear hb hbox hg; have hcz6_0 := bc_ BK577.out 0 (.bool true) rfl; have hcz6_1 := bc_ BK577.out 1 (.int .i64 a0_1) rfl; have hfz6_0 := blk_frozen BK577.out 0; have hfz6_1 := blk_frozen BK577.out 1) | ((with_reducible refine gate_callee (f := 67) rfl ?_); refine goesL_ (some 5) rfl rfl Try.func67 (by kernel_rfl) rfl #[.int .i64 a0_1, .int .i64 (-1000000000000), .int .i64 1000000000000] rfl arr_ ?_; (with_reducible refine (impl_in.calls a0_1 (-1000000000000) 1000000000000 true _ A2.out).mono ?_); rintro e w' ⟨rfl, ⟨nd, rfl⟩⟩; refine ⟨_, rfl, ?_⟩))
      go_ret
      exact ⟨er_, hb1_ HB.out GE577.out⟩
    · replace c4 := Bool.eq_false_iff.mpr c4
      subst c4
      have H1 : (some (a0_1 == 0)) = some r := by rw [if_neg (show ¬ (false = true) by decide)] at H; exact H
      clear H
      have H := H1
      clear H1
      obtain rfl := Option.some.inj H
      go_enter Try.func51, Try.ntmps51
      go_wp2_with (first | ((with_reducible refine gate_dst (N := 1) rfl ?_); refine box_event ?hg (N := 1) ?hd (cs := #[.bool false, .int .i64 a0_1]) (t := 66) ?hr ?_; (case hd => rfl); (case hg => rfl); (case hr => first | (go_simp; done) | (go_simp; rfl)); intro gb577 hg w7 hbox hb; have n0_ := Aside0.mk (below_step (hb_ HB.out) hb); have n1_ := Aside0.mk (hbox); have n2_ := Aside0.mk ((by rw [hg]; exact (below_size (hb_ HB.out)) : w.heap.size ≤ gb577)); have n3_ := Aside0.mk ((by rw [hg]; exact (below_size (hb_ HB.out)) : w.heap.size ≤ gb577)); clear HB; have HB := n0_; have BK577 := n1_; have GW577 := n2_; have GE577 := n3_; clear n0_ n1_ n2_ n3_; clear hb hbox hg; have hcz8_0 := bc_ BK577.out 0 (.bool false) rfl; have hcz8_1 := bc_ BK577.out 1 (.int .i64 a0_1) rfl; have hfz8_0 := blk_frozen BK577.out 0; have hfz8_1 := blk_frozen BK577.out 1) | ((with_reducible refine gate_callee (f := 67) rfl ?_); refine goesL_ (some 5) rfl rfl Try.func67 (by kernel_rfl) rfl #[.int .i64 a0_1, .int .i64 (-1000000000000), .int .i64 1000000000000] rfl arr_ ?_; (with_reducible refine (impl_in.calls a0_1 (-1000000000000) 1000000000000 true _ A2.out).mono ?_); rintro e w' ⟨rfl, ⟨nd, rfl⟩⟩; refine ⟨_, rfl, ?_⟩))
      go_ret
      exact ⟨er_, hb1_ HB.out GE577.out⟩
  · replace c3 := Bool.eq_false_iff.mpr c3
    subst c3
    have H1 : (some false) = some r := by rw [if_neg (show ¬ (false = true) by decide)] at H; exact H
    clear H
    have H := H1
    clear H1
    obtain rfl := Option.some.inj H
    go_enter Try.func51, Try.ntmps51
    go_wp2_with (first | ((with_reducible refine gate_dst (N := 1) rfl ?_); refine box_event ?hg (N := 1) ?hd (cs := #[.bool a0_0, .int .i64 a0_1]) (t := 66) ?hr ?_; (case hd => rfl); (case hg => rfl); (case hr => first | (go_simp; done) | (go_simp; rfl)); intro gb577 hg w9 hbox hb; have n0_ := Aside0.mk (below_step (hb_ HB.out) hb); have n1_ := Aside0.mk (hbox); have n2_ := Aside0.mk ((by rw [hg]; exact (below_size (hb_ HB.out)) : w.heap.size ≤ gb577)); have n3_ := Aside0.mk ((by rw [hg]; exact (below_size (hb_ HB.out)) : w.heap.size ≤ gb577)); clear HB; have HB := n0_; have BK577 := n1_; have GW577 := n2_; have GE577 := n3_; clear n0_ n1_ n2_ n3_; clear hb hbox hg; have hcz10_0 := bc_ BK577.out 0 (.bool a0_0) rfl; have hcz10_1 := bc_ BK577.out 1 (.int .i64 a0_1) rfl; have hfz10_0 := blk_frozen BK577.out 0; have hfz10_1 := blk_frozen BK577.out 1) | ((with_reducible refine gate_callee (f := 67) rfl ?_); refine goesL_ (some 5) rfl rfl Try.func67 (by kernel_rfl) rfl #[.int .i64 a0_1, .int .i64 (-1000000000000), .int .i64 1000000000000] rfl arr_ ?_; (with_reducible refine (impl_in.calls a0_1 (-1000000000000) 1000000000000 false _ A2.out).mono ?_); rintro e w' ⟨rfl, ⟨nd, rfl⟩⟩; refine ⟨_, rfl, ?_⟩))
    go_ret
    exact ⟨er_, hb1_ HB.out GE577.out⟩
def impl_IvalOk.f (a0_0 : Int) (a0_1 : Int) : Option (Bool) := if (-1000000000000) ≤ a0_0 then (if a0_0 ≤ a0_1 then (some (decide (a0_1 ≤ 1000000000000))) else (some false)) else (some false)
set_option maxHeartbeats 8000000 in
set_option maxRecDepth 100000 in
theorem impl_IvalOk.calls (a0_0 : Int) (a0_1 : Int) (r : Bool) (w : World) (h : impl_IvalOk.f a0_0 a0_1 = some r) :
    Calls Try.prog 94 #[.agg #[.int .i64 a0_0, .int .i64 a0_1]] w fun e w' => e = .returned (.bool r) ∧ Below w.heap.size w w' := by
  have hu81 := Try.underlying81
  have HB := Aside0.mk (Below.refl w.heap.size w)
  have H : (if (-1000000000000) ≤ a0_0 then (if a0_0 ≤ a0_1 then (some (decide (a0_1 ≤ 1000000000000))) else (some false)) else (some false)) = some r := h
  clear h
  by_cases c2 : (-1000000000000) ≤ a0_0
  · rw [if_pos c2] at H
    have c2b0 : decide ((-1000000000000) ≤ a0_0) = true := decide_eq_true c2
    clear c2
    by_cases c3 : a0_0 ≤ a0_1
    · rw [if_pos c3] at H
      have c3b0 : decide (a0_0 ≤ a0_1) = true := decide_eq_true c3
      clear c3
      obtain rfl := Option.some.inj H
      go_enter Try.func94, Try.ntmps94
      go_wp2_with (first | ((with_reducible refine gate_dst (N := 1) rfl ?_); refine box_event ?hg (N := 1) ?hd (cs := #[.int .i64 a0_0, .int .i64 a0_1]) (t := 81) ?hr ?_; (case hd => rfl); (case hg => rfl); (case hr => first | (go_simp; done) | (go_simp; rfl)); intro gb579 hg w4 hbox hb; have n0_ := Aside0.mk (below_step (hb_ HB.out) hb); have n1_ := Aside0.mk (hbox); have n2_ := Aside0.mk ((by rw [hg]; exact (below_size (hb_ HB.out)) : w.heap.size ≤ gb579)); have n3_ := Aside0.mk ((by rw [hg]; exact (below_size (hb_ HB.out)) : w.heap.size ≤ gb579)); clear HB; have HB := n0_; have BK579 := n1_; have GW579 := n2_; have GE579 := n3_; clear n0_ n1_ n2_ n3_; clear hb hbox hg; have hcz5_0 := bc_ BK579.out 0 (.int .i64 a0_0) rfl; have hcz5_1 := bc_ BK579.out 1 (.int .i64 a0_1) rfl; have hfz5_0 := blk_frozen BK579.out 0; have hfz5_1 := blk_frozen BK579.out 1))
      go_ret
      exact ⟨er_, hb1_ HB.out GE579.out⟩
    · rw [if_neg c3] at H
      have c3b0 : decide (a0_0 ≤ a0_1) = false := decide_eq_false c3
      clear c3
      obtain rfl := Option.some.inj H
      go_enter Try.func94, Try.ntmps94
      go_wp2_with (first | ((with_reducible refine gate_dst (N := 1) rfl ?_); refine box_event ?hg (N := 1) ?hd (cs := #[.int .i64 a0_0, .int .i64 a0_1]) (t := 81) ?hr ?_; (case hd => rfl); (case hg => rfl); (case hr => first | (go_simp; done) | (go_simp; rfl)); intro gb579 hg w6 hbox hb; have n0_ := Aside0.mk (below_step (hb_ HB.out) hb); have n1_ := Aside0.mk (hbox); have n2_ := Aside0.mk ((by rw [hg]; exact (below_size (hb_ HB.out)) : w.heap.size ≤ gb579)); have n3_ := Aside0.mk ((by rw [hg]; exact (below_size (hb_ HB.out)) : w.heap.size ≤ gb579)); clear HB; have HB := n0_; have BK579 := n1_; have GW579 := n2_; have GE579 := n3_; clear n0_ n1_ n2_ n3_; clear hb hbox hg; have hcz7_0 := bc_ BK579.out 0 (.int .i64 a0_0) rfl; have hcz7_1 := bc_ BK579.out 1 (.int .i64 a0_1) rfl; have hfz7_0 := blk_frozen BK579.out 0; have hfz7_1 := blk_frozen BK579.out 1))
      go_ret
      exact ⟨er_, hb1_ HB.out GE579.out⟩
  · rw [if_neg c2] at H
    have c2b0 : decide ((-1000000000000) ≤ a0_0) = false := decide_eq_false c2
    clear c2
    obtain rfl := Option.some.inj H
    go_enter Try.func94, Try.ntmps94
    go_wp2_with (first | ((with_reducible refine gate_dst (N := 1) rfl ?_); refine box_event ?hg (N := 1) ?hd (cs := #[.int .i64 a0_0, .int .i64 a0_1]) (t := 81) ?hr ?_; (case hd => rfl); (case hg => rfl); (case hr => first | (go_simp; done) | (go_simp; rfl)); intro gb579 hg w8 hbox hb; have n0_ := Aside0.mk (below_step (hb_ HB.out) hb); have n1_ := Aside0.mk (hbox); have n2_ := Aside0.mk ((by rw [hg]; exact (below_size (hb_ HB.out)) : w.heap.size ≤ gb579)); have n3_ := Aside0.mk ((by rw [hg]; exact (below_size (hb_ HB.out)) : w.heap.size ≤ gb579)); clear HB; have HB := n0_; have BK579 := n1_; have GW579 := n2_; have GE579 := n3_; clear n0_ n1_ n2_ n3_; clear hb hbox hg; have hcz9_0 := bc_ BK579.out 0 (.int .i64 a0_0) rfl; have hcz9_1 := bc_ BK579.out 1 (.int .i64 a0_1) rfl; have hfz9_0 := blk_frozen BK579.out 0; have hfz9_1 := blk_frozen BK579.out 1))
    go_ret
    exact ⟨er_, hb1_ HB.out GE579.out⟩
def impl_down.f (a0 : Int) (a1 : Int) : Option (Int) := if a1 = 0 then (none) else (if (Int.tmod a0 a1) < 0 then (some (wrap64 ((wrap64 (Int.tdiv a0 a1)) - 1))) else (some (wrap64 (Int.tdiv a0 a1))))
set_option maxHeartbeats 8000000 in
set_option maxRecDepth 100000 in
theorem impl_down.calls (a0 : Int) (a1 : Int) (r : Int) (w : World) (h : impl_down.f a0 a1 = some r) :
    Calls Try.prog 120 #[.int .i64 a0, .int .i64 a1] w fun e w' => e = .returned (.int .i64 r) ∧ Drawn0 w w' := by
  have H : (if a1 = 0 then (none) else (if (Int.tmod a0 a1) < 0 then (some (wrap64 ((wrap64 (Int.tdiv a0 a1)) - 1))) else (some (wrap64 (Int.tdiv a0 a1))))) = some r := h
  clear h
  by_cases c3 : a1 = 0
  · rw [if_pos c3] at H
    exact absurd H (by simp)
  · rw [if_neg c3] at H
    have c3b0 : (a1 == 0) = false := beq_eq_false_iff_ne.mpr c3
    have c3b1 : (a1 != 0) = true := bne_iff_ne.mpr c3
    by_cases c4 : (Int.tmod a0 a1) < 0
    · rw [if_pos c4] at H
      have c4b0 : decide ((Int.tmod a0 a1) < 0) = true := decide_eq_true c4
      clear c4
      obtain rfl := Option.some.inj H
      go_enter Try.func120, Try.ntmps120
      go_wp2
      go_ret
      exact ⟨by first | rfl | (simp; done) | (simp [*]; done), by repeat (first | exact Drawn0.refl _ | apply Drawn0.step)⟩
    · rw [if_neg c4] at H
      have c4b0 : decide ((Int.tmod a0 a1) < 0) = false := decide_eq_false c4
      clear c4
      obtain rfl := Option.some.inj H
      go_enter Try.func120, Try.ntmps120
      go_wp2
      go_ret
      exact ⟨by first | rfl | (simp; done) | (simp [*]; done), by repeat (first | exact Drawn0.refl _ | apply Drawn0.step)⟩
def impl_Middle.f (a0_0 : Int) (a0_1 : Int) : Option (Int × Bool) := (impl_IvalOk.f a0_0 a0_1).bind fun t581 => (if t581 = true then ((impl_down.f (wrap64 (a0_0 + a0_1)) 2).bind fun t582 => (some (t582, true))) else (some (0, false)))
set_option maxHeartbeats 8000000 in
set_option maxRecDepth 100000 in
theorem impl_Middle.calls (a0_0 : Int) (a0_1 : Int) (r1 : Int) (r2 : Bool) (w : World) (h : impl_Middle.f a0_0 a0_1 = some (r1, r2)) :
    Calls Try.prog 96 #[.agg #[.int .i64 a0_0, .int .i64 a0_1]] w fun e w' => e = .returned (.tuple #[.int .i64 r1, .bool r2]) ∧ Below w.heap.size w w' := by
  have hu81 := Try.underlying81
  have HB := Aside0.mk (Below.refl w.heap.size w)
  have H : ((impl_IvalOk.f a0_0 a0_1).bind fun t581 => (if t581 = true then ((impl_down.f (wrap64 (a0_0 + a0_1)) 2).bind fun t582 => (some (t582, true))) else (some (0, false)))) = some (r1, r2) := h
  clear h
  replace H := Option.bind_eq_some_iff.mp H
  obtain ⟨t581, A20, H⟩ := H
  replace H : (if t581 = true then ((impl_down.f (wrap64 (a0_0 + a0_1)) 2).bind fun t582 => (some (t582, true))) else (some (0, false))) = some (r1, r2) := H
  have A2 := Aside0.mk A20
  clear A20
  by_cases c3 : t581 = true
  · subst c3
    have H1 : ((impl_down.f (wrap64 (a0_0 + a0_1)) 2).bind fun t582 => (some (t582, true))) = some (r1, r2) := by rw [if_pos rfl] at H; exact H
    clear H
    have H := H1
    clear H1
    replace H := Option.bind_eq_some_iff.mp H
    obtain ⟨t582, A40, H⟩ := H
    replace H : (some (t582, true)) = some (r1, r2) := H
    have A4 := Aside0.mk A40
    clear A40
    simp only [Option.some.injEq, Prod.mk.injEq] at H
    obtain ⟨rfl, rfl⟩ := H
    go_enter Try.func96, Try.ntmps96
    go_wp2_with (first | ((with_reducible refine gate_dst (N := 1) rfl ?_); refine box_event ?hg (N := 1) ?hd (cs := #[.int .i64 a0_0, .int .i64 a0_1]) (t := 81) ?hr ?_; (case hd => rfl); (case hg => rfl); (case hr => first | (go_simp; done) | (go_simp; rfl)); intro gb580 hg w5 hbox hb; have n0_ := Aside0.mk (below_step (hb_ HB.out) hb); have n1_ := Aside0.mk (hbox); have n2_ := Aside0.mk ((by rw [hg]; exact (below_size (hb_ HB.out)) : w.heap.size ≤ gb580)); have n3_ := Aside0.mk ((by rw [hg]; exact (below_size (hb_ HB.out)) : w.heap.size ≤ gb580)); clear HB; have HB := n0_; have BK580 := n1_; have GW580 := n2_; have GE580 := n3_; clear n0_ n1_ n2_ n3_; clear hb hbox hg; have hcz6_0 := bc_ BK580.out 0 (.int .i64 a0_0) rfl; have hcz6_1 := bc_ BK580.out 1 (.int .i64 a0_1) rfl; have hfz6_0 := blk_frozen BK580.out 0; have hfz6_1 := blk_frozen BK580.out 1) | ((with_reducible refine gate_callee (f := 94) rfl ?_); refine goesL_ (some 5) rfl rfl Try.func94 (by kernel_rfl) rfl #[.agg #[.int .i64 a0_0, .int .i64 a0_1]] rfl arr_ ?_; (with_reducible refine (impl_IvalOk.calls a0_0 a0_1 true _ A2.out).mono ?_); rintro e w7 ⟨rfl, hb⟩; refine ⟨_, rfl, ?_⟩; have n0_ := Aside0.mk (bb_ BK580.out hb); have n1_ := Aside0.mk (below_step (hb1_ HB.out GE580.out) hb); clear BK580; clear HB; have BK580 := n0_; have HB := n1_; clear n0_ n1_; (try clear hb); (try clear hb2); (try clear hk); (try clear hi); have hcz8_0 := bc_ BK580.out 0 (.int .i64 a0_0) rfl; have hcz8_1 := bc_ BK580.out 1 (.int .i64 a0_1) rfl; have hfz8_0 := blk_frozen BK580.out 0; have hfz8_1 := blk_frozen BK580.out 1) | ((with_reducible refine gate_callee (f := 120) rfl ?_); refine goesL_ (some 12) rfl rfl Try.func120 (by kernel_rfl) rfl #[.int .i64 (wrap64 (a0_0 + a0_1)), .int .i64 2] rfl arr_ ?_; (with_reducible refine (impl_down.calls (wrap64 (a0_0 + a0_1)) 2 t582 _ A4.out).mono ?_); rintro e w' ⟨rfl, ⟨nd, rfl⟩⟩; refine ⟨_, rfl, ?_⟩))
    go_ret2
    exact ⟨er_, hb1_ HB.out GE580.out⟩
  · replace c3 := Bool.eq_false_iff.mpr c3
    subst c3
    have H1 : (some (0, false)) = some (r1, r2) := by rw [if_neg (show ¬ (false = true) by decide)] at H; exact H
    clear H
    have H := H1
    clear H1
    simp only [Option.some.injEq, Prod.mk.injEq] at H
    obtain ⟨rfl, rfl⟩ := H
    go_enter Try.func96, Try.ntmps96
    go_wp2_with (first | ((with_reducible refine gate_dst (N := 1) rfl ?_); refine box_event ?hg (N := 1) ?hd (cs := #[.int .i64 a0_0, .int .i64 a0_1]) (t := 81) ?hr ?_; (case hd => rfl); (case hg => rfl); (case hr => first | (go_simp; done) | (go_simp; rfl)); intro gb580 hg w9 hbox hb; have n0_ := Aside0.mk (below_step (hb_ HB.out) hb); have n1_ := Aside0.mk (hbox); have n2_ := Aside0.mk ((by rw [hg]; exact (below_size (hb_ HB.out)) : w.heap.size ≤ gb580)); have n3_ := Aside0.mk ((by rw [hg]; exact (below_size (hb_ HB.out)) : w.heap.size ≤ gb580)); clear HB; have HB := n0_; have BK580 := n1_; have GW580 := n2_; have GE580 := n3_; clear n0_ n1_ n2_ n3_; clear hb hbox hg; have hcz10_0 := bc_ BK580.out 0 (.int .i64 a0_0) rfl; have hcz10_1 := bc_ BK580.out 1 (.int .i64 a0_1) rfl; have hfz10_0 := blk_frozen BK580.out 0; have hfz10_1 := blk_frozen BK580.out 1) | ((with_reducible refine gate_callee (f := 94) rfl ?_); refine goesL_ (some 5) rfl rfl Try.func94 (by kernel_rfl) rfl #[.agg #[.int .i64 a0_0, .int .i64 a0_1]] rfl arr_ ?_; (with_reducible refine (impl_IvalOk.calls a0_0 a0_1 false _ A2.out).mono ?_); rintro e w11 ⟨rfl, hb⟩; refine ⟨_, rfl, ?_⟩; have n0_ := Aside0.mk (bb_ BK580.out hb); have n1_ := Aside0.mk (below_step (hb1_ HB.out GE580.out) hb); clear BK580; clear HB; have BK580 := n0_; have HB := n1_; clear n0_ n1_; (try clear hb); (try clear hb2); (try clear hk); (try clear hi)))
    go_ret2
    exact ⟨er_, hb1_ HB.out GE580.out⟩
end Go.Proofs.Ytcgdnfaclbnflaa.P
namespace Go.Proofs.Ytcgdnfaclbnflaa.P
open Go.RowKit Go.Proofs.YtcgdnfaclbnflaaW.PrintWords Go.Proofs.YtcgdnfaclbnflaaW.PrintLast Go.Proofs.YtcgdnfaclbnflaaW.PrintMore
attribute [local go_sem] max2_int min2_int max_two min_two max_three min_three max_four min_four
set_option linter.unusedVariables false
set_option linter.unusedSimpArgs false
mutual
def impl_AppRead.j0 : Nat → Bool → Bool → Bool → Int → Int → Int → Option (Bool × Int × Int × Bool × Int)
  | 0, _, _, _, _, _, _ => none
  | k + 1, x1, x12, x584000, x584001, x585000, x585001 => if x12 = true then (some (false, 0, 0, false, 1)) else (if x1 = true then (impl_AppRead.j1 k x1 false x584000 x584001 x585000 x585001) else (impl_AppRead.j1 k x1 (!x584000) x584000 x584001 x585000 x585001))
def impl_AppRead.j1 : Nat → Bool → Bool → Bool → Int → Int → Int → Option (Bool × Int × Int × Bool × Int)
  | 0, _, _, _, _, _, _ => none
  | k + 1, x1, x25, x584000, x584001, x585000, x585001 => if x25 = true then (some (x584000, x584001, 0, false, 2)) else (if x1 = true then (if x584000 = true then (impl_AppRead.j2 k (decide (x584001 > x585001)) x584000 x584001 x585000 x585001) else (impl_AppRead.j2 k false x584000 x584001 x585000 x585001)) else (impl_AppRead.j2 k true x584000 x584001 x585000 x585001))
def impl_AppRead.j2 : Nat → Bool → Bool → Int → Int → Int → Option (Bool × Int × Int × Bool × Int)
  | 0, _, _, _, _, _ => none
  | k + 1, x34, x584000, x584001, x585000, x585001 => if x34 = true then (some (x584000, x584001, x584001, true, 0)) else ((impl_Middle.f x585000 x585001).bind fun bt588 => (if x584000 = true then (some (true, mx bt588.1 x584001, mx bt588.1 x584001, false, 0)) else (some (true, bt588.1, bt588.1, false, 0))))
end
def impl_AppRead.f (k : Nat) (a0_0 : Bool) (a0_1 : Int) (a1 : Bool) (a2_0 : Int) (a2_1 : Int) : Option (Bool × Int × Int × Bool × Int) := (impl_AppOk.f a0_0 a0_1).bind fun t586 => (if t586 = true then (if a1 = true then ((impl_IvalOk.f a2_0 a2_1).bind fun t587 => (impl_AppRead.j0 k a1 (!t587) a0_0 a0_1 a2_0 a2_1)) else (impl_AppRead.j0 k a1 false a0_0 a0_1 a2_0 a2_1)) else (impl_AppRead.j0 k a1 true a0_0 a0_1 a2_0 a2_1))
set_option maxHeartbeats 8000000 in
set_option maxRecDepth 100000 in
theorem impl_AppRead.calls (k : Nat) (a0_0 : Bool) (a0_1 : Int) (a1 : Bool) (a2_0 : Int) (a2_1 : Int) (r1 : Bool) (r2 : Int) (r3 : Int) (r4 : Bool) (r5 : Int) (w : World) (h : impl_AppRead.f k a0_0 a0_1 a1 a2_0 a2_1 = some (r1, r2, r3, r4, r5)) :
    Calls Try.prog 53 #[.agg #[.bool a0_0, .int .i64 a0_1], .bool a1, .agg #[.int .i64 a2_0, .int .i64 a2_1]] w fun e w' => e = .returned (.tuple #[.agg #[.bool r1, .int .i64 r2], .int .i64 r3, .bool r4, .int .i64 r5]) ∧ Below w.heap.size w w' := by
  have hu66 := Try.underlying66
  have hu81 := Try.underlying81
  have HB := Aside0.mk (Below.refl w.heap.size w)
  have H : ((impl_AppOk.f a0_0 a0_1).bind fun t586 => (if t586 = true then (if a1 = true then ((impl_IvalOk.f a2_0 a2_1).bind fun t587 => (impl_AppRead.j0 k a1 (!t587) a0_0 a0_1 a2_0 a2_1)) else (impl_AppRead.j0 k a1 false a0_0 a0_1 a2_0 a2_1)) else (impl_AppRead.j0 k a1 true a0_0 a0_1 a2_0 a2_1))) = some (r1, r2, r3, r4, r5) := h
  clear h
  have HC4 := Aside0.mk H
  clear H
  go_enter Try.func53, Try.ntmps53
  go_upto_region 1 with (first | ((with_reducible refine gate_dst (N := 3) rfl ?_); refine box_event ?hg (N := 3) ?hd (cs := #[.bool a0_0, .int .i64 a0_1]) (t := 66) ?hr ?_; (case hd => rfl); (case hg => rfl); (case hr => first | (go_simp; done) | (go_simp; rfl)); intro gb583 hg w5 hbox hb; have n0_ := Aside0.mk (below_step (hb_ HB.out) hb); have n1_ := Aside0.mk (hbox); have n2_ := Aside0.mk ((by rw [hg]; exact (below_size (hb_ HB.out)) : w.heap.size ≤ gb583)); have n3_ := Aside0.mk ((by rw [hg]; exact (below_size (hb_ HB.out)) : w.heap.size ≤ gb583)); clear HB; have HB := n0_; have BK583 := n1_; have GW583 := n2_; have GE583 := n3_; clear n0_ n1_ n2_ n3_; clear hb hbox hg) | ((with_reducible refine gate_dst (N := 5) rfl ?_); refine box_event ?hg (N := 5) ?hd (cs := #[.int .i64 a2_0, .int .i64 a2_1]) (t := 81) ?hr ?_; (case hd => rfl); (case hg => rfl); (case hr => first | (go_simp; done) | (go_simp; rfl)); intro gb584 hg w6 hbox hb; have n0_ := Aside0.mk (bb_ BK583.out hb); have n1_ := Aside0.mk (below_step (hb1_ HB.out GE583.out) hb); have n2_ := Aside0.mk (hbox); have n3_ := Aside0.mk ((by rw [hg]; exact (below_size (hb1_ HB.out GE583.out)) : w.heap.size ≤ gb584)); have n4_ := Aside0.mk ((by rw [hg]; exact (below_size (hb1_ HB.out GE583.out)) : w.heap.size ≤ gb584)); have n5_ := Aside0.mk ((bl_ hg BK583.out : gb583 ≠ gb584)); have n6_ := Aside0.mk ((bg_ hg BK583.out : gb584 ≠ gb583)); clear BK583; clear HB; have BK583 := n0_; have HB := n1_; have BK584 := n2_; have GW584 := n3_; have GE584 := n4_; have NB583_584 := n5_; have NB584_583 := n6_; clear n0_ n1_ n2_ n3_ n4_ n5_ n6_; clear hb hbox hg) | ((with_reducible refine gate_dst (N := 6) rfl ?_); refine box_event ?hg (N := 6) ?hd (cs := #[.bool false, .int .i64 0]) (t := 66) ?hr ?_; (case hd => rfl); (case hg => rfl); (case hr => first | (go_simp; done) | (go_simp; rfl)); intro gb585 hg w7 hbox hb; have n0_ := Aside0.mk (bb_ BK583.out hb); have n1_ := Aside0.mk (bb_ BK584.out hb); have n2_ := Aside0.mk (below_step (hb2_ HB.out GE583.out GE584.out) hb); have n3_ := Aside0.mk (hbox); have n4_ := Aside0.mk ((by rw [hg]; exact (below_size (hb2_ HB.out GE583.out GE584.out)) : w.heap.size ≤ gb585)); have n5_ := Aside0.mk ((by rw [hg]; exact (below_size (hb2_ HB.out GE583.out GE584.out)) : w.heap.size ≤ gb585)); have n6_ := Aside0.mk ((bl_ hg BK583.out : gb583 ≠ gb585)); have n7_ := Aside0.mk ((bg_ hg BK583.out : gb585 ≠ gb583)); have n8_ := Aside0.mk ((bl_ hg BK584.out : gb584 ≠ gb585)); have n9_ := Aside0.mk ((bg_ hg BK584.out : gb585 ≠ gb584)); clear BK583; clear BK584; clear HB; have BK583 := n0_; have BK584 := n1_; have HB := n2_; have BK585 := n3_; have GW585 := n4_; have GE585 := n5_; have NB583_585 := n6_; have NB585_583 := n7_; have NB584_585 := n8_; have NB585_584 := n9_; clear n0_ n1_ n2_ n3_ n4_ n5_ n6_ n7_ n8_ n9_; clear hb hbox hg))
  (try simp only [Act.put, List.setIfInBounds_toArray, List.set_cons_zero, List.set_cons_succ])
  go_cut [12] (fun v12 wc => ∃ (kq : Nat) (x12_3 : Bool), v12 = .bool x12_3 ∧ Aside0 (impl_AppRead.j0 kq a1 x12_3 a0_0 a0_1 a2_0 a2_1 = some (r1, r2, r3, r4, r5)) ∧ Aside0 (kq ≤ k) ∧ Aside0 (wc.heap[gb583]? = some (.cells #[.bool a0_0, .int .i64 a0_1] 66 (0, 0))) ∧ Aside0 (wc.heap[gb584]? = some (.cells #[.int .i64 a2_0, .int .i64 a2_1] 81 (0, 0))) ∧ Aside0 (wc.heap[gb585]? = some (.cells #[.bool false, .int .i64 0] 66 (0, 0))) ∧ Aside0 (Below w.heap.size w wc))
  case first =>
    have H := HC4.out
    clear HC4
    replace H := Option.bind_eq_some_iff.mp H
    obtain ⟨t586, A80, H⟩ := H
    replace H : (if t586 = true then (if a1 = true then ((impl_IvalOk.f a2_0 a2_1).bind fun t587 => (impl_AppRead.j0 k a1 (!t587) a0_0 a0_1 a2_0 a2_1)) else (impl_AppRead.j0 k a1 false a0_0 a0_1 a2_0 a2_1)) else (impl_AppRead.j0 k a1 true a0_0 a0_1 a2_0 a2_1)) = some (r1, r2, r3, r4, r5) := H
    have A8 := Aside0.mk A80
    clear A80
    by_cases c9 : t586 = true
    · subst c9
      have H1 : (if a1 = true then ((impl_IvalOk.f a2_0 a2_1).bind fun t587 => (impl_AppRead.j0 k a1 (!t587) a0_0 a0_1 a2_0 a2_1)) else (impl_AppRead.j0 k a1 false a0_0 a0_1 a2_0 a2_1)) = some (r1, r2, r3, r4, r5) := by rw [if_pos rfl] at H; exact H
      clear H
      have H := H1
      clear H1
      by_cases c10 : a1 = true
      · subst c10
        have H1 : ((impl_IvalOk.f a2_0 a2_1).bind fun t587 => (impl_AppRead.j0 k true (!t587) a0_0 a0_1 a2_0 a2_1)) = some (r1, r2, r3, r4, r5) := by rw [if_pos rfl] at H; exact H
        clear H
        have H := H1
        clear H1
        replace H := Option.bind_eq_some_iff.mp H
        obtain ⟨t587, A110, H⟩ := H
        replace H : (impl_AppRead.j0 k true (!t587) a0_0 a0_1 a2_0 a2_1) = some (r1, r2, r3, r4, r5) := H
        have A11 := Aside0.mk A110
        clear A110
        have H' := Aside0.mk H
        clear H
        have hnb12 := NB583_584.out
        have hnc12 := NB584_583.out
        have hnb13 := NB583_585.out
        have hnc13 := NB585_583.out
        have hcz14_0 := bc_ BK583.out 0 (.bool a0_0) rfl
        have hcz14_1 := bc_ BK583.out 1 (.int .i64 a0_1) rfl
        have hfz14_0 := blk_frozen BK583.out 0
        have hfz14_1 := blk_frozen BK583.out 1
        go_wp2_with (first | ((with_reducible refine gate_callee (f := 51) rfl ?_); refine goesL_ (some 14) rfl rfl Try.func51 (by kernel_rfl) rfl #[.agg #[.bool a0_0, .int .i64 a0_1]] rfl arr_ ?_; (with_reducible refine (impl_AppOk.calls a0_0 a0_1 true _ A8.out).mono ?_); rintro e w15 ⟨rfl, hb⟩; refine ⟨_, rfl, ?_⟩; have n0_ := Aside0.mk (bb_ BK583.out hb); have n1_ := Aside0.mk (bb_ BK584.out hb); have n2_ := Aside0.mk (bb_ BK585.out hb); have n3_ := Aside0.mk (below_step (hb3_ HB.out GE583.out GE584.out GE585.out) hb); clear BK583; clear BK584; clear BK585; clear HB; have BK583 := n0_; have BK584 := n1_; have BK585 := n2_; have HB := n3_; clear n0_ n1_ n2_ n3_; (try clear hb); (try clear hb2); (try clear hk); (try clear hi); have hnb16 := NB584_585.out; have hnc16 := NB585_584.out; have hcz17_0 := bc_ BK584.out 0 (.int .i64 a2_0) rfl; have hcz17_1 := bc_ BK584.out 1 (.int .i64 a2_1) rfl; have hfz17_0 := blk_frozen BK584.out 0; have hfz17_1 := blk_frozen BK584.out 1) | (go_at_call 94; (with_reducible refine (impl_IvalOk.calls a2_0 a2_1 t587 _ A11.out).mono ?_); rintro e w18 ⟨rfl, hb⟩; have n0_ := Aside0.mk (bb_ BK583.out hb); have n1_ := Aside0.mk (bb_ BK584.out hb); have n2_ := Aside0.mk (bb_ BK585.out hb); have n3_ := Aside0.mk (below_step (hb3_ HB.out GE583.out GE584.out GE585.out) hb); clear BK583; clear BK584; clear BK585; clear HB; have BK583 := n0_; have BK584 := n1_; have BK585 := n2_; have HB := n3_; clear n0_ n1_ n2_ n3_; (try clear hb); (try clear hb2); (try clear hk); (try clear hi)))
        go_meet
        case rel => exact ⟨_, (!t587), (by first | rfl | (simp; done) | (simp [*]; done)), H', ⟨by first | omega | exact Nat.le_refl _⟩, ⟨bk_ BK583.out⟩, ⟨bk_ BK584.out⟩, ⟨bk_ BK585.out⟩, ⟨hb3_ HB.out GE583.out GE584.out GE585.out⟩⟩
      · replace c10 := Bool.eq_false_iff.mpr c10
        subst c10
        have H1 : (impl_AppRead.j0 k false false a0_0 a0_1 a2_0 a2_1) = some (r1, r2, r3, r4, r5) := by rw [if_neg (show ¬ (false = true) by decide)] at H; exact H
        clear H
        have H := H1
        clear H1
        have H' := Aside0.mk H
        clear H
        have hnb19 := NB583_584.out
        have hnc19 := NB584_583.out
        have hnb20 := NB583_585.out
        have hnc20 := NB585_583.out
        have hcz21_0 := bc_ BK583.out 0 (.bool a0_0) rfl
        have hcz21_1 := bc_ BK583.out 1 (.int .i64 a0_1) rfl
        have hfz21_0 := blk_frozen BK583.out 0
        have hfz21_1 := blk_frozen BK583.out 1
        go_wp2_with (first | ((with_reducible refine gate_callee (f := 51) rfl ?_); refine goesL_ (some 14) rfl rfl Try.func51 (by kernel_rfl) rfl #[.agg #[.bool a0_0, .int .i64 a0_1]] rfl arr_ ?_; (with_reducible refine (impl_AppOk.calls a0_0 a0_1 true _ A8.out).mono ?_); rintro e w22 ⟨rfl, hb⟩; refine ⟨_, rfl, ?_⟩; have n0_ := Aside0.mk (bb_ BK583.out hb); have n1_ := Aside0.mk (bb_ BK584.out hb); have n2_ := Aside0.mk (bb_ BK585.out hb); have n3_ := Aside0.mk (below_step (hb3_ HB.out GE583.out GE584.out GE585.out) hb); clear BK583; clear BK584; clear BK585; clear HB; have BK583 := n0_; have BK584 := n1_; have BK585 := n2_; have HB := n3_; clear n0_ n1_ n2_ n3_; (try clear hb); (try clear hb2); (try clear hk); (try clear hi)))
        go_meet
        case rel => exact ⟨_, (false), (by first | rfl | (simp; done) | (simp [*]; done)), H', ⟨by first | omega | exact Nat.le_refl _⟩, ⟨bk_ BK583.out⟩, ⟨bk_ BK584.out⟩, ⟨bk_ BK585.out⟩, ⟨hb3_ HB.out GE583.out GE584.out GE585.out⟩⟩
    · replace c9 := Bool.eq_false_iff.mpr c9
      subst c9
      have H1 : (impl_AppRead.j0 k a1 true a0_0 a0_1 a2_0 a2_1) = some (r1, r2, r3, r4, r5) := by rw [if_neg (show ¬ (false = true) by decide)] at H; exact H
      clear H
      have H := H1
      clear H1
      have H' := Aside0.mk H
      clear H
      have hnb23 := NB583_584.out
      have hnc23 := NB584_583.out
      have hnb24 := NB583_585.out
      have hnc24 := NB585_583.out
      have hcz25_0 := bc_ BK583.out 0 (.bool a0_0) rfl
      have hcz25_1 := bc_ BK583.out 1 (.int .i64 a0_1) rfl
      have hfz25_0 := blk_frozen BK583.out 0
      have hfz25_1 := blk_frozen BK583.out 1
      go_wp2_with (first | ((with_reducible refine gate_callee (f := 51) rfl ?_); refine goesL_ (some 14) rfl rfl Try.func51 (by kernel_rfl) rfl #[.agg #[.bool a0_0, .int .i64 a0_1]] rfl arr_ ?_; (with_reducible refine (impl_AppOk.calls a0_0 a0_1 false _ A8.out).mono ?_); rintro e w26 ⟨rfl, hb⟩; refine ⟨_, rfl, ?_⟩; have n0_ := Aside0.mk (bb_ BK583.out hb); have n1_ := Aside0.mk (bb_ BK584.out hb); have n2_ := Aside0.mk (bb_ BK585.out hb); have n3_ := Aside0.mk (below_step (hb3_ HB.out GE583.out GE584.out GE585.out) hb); clear BK583; clear BK584; clear BK585; clear HB; have BK583 := n0_; have BK584 := n1_; have BK585 := n2_; have HB := n3_; clear n0_ n1_ n2_ n3_; (try clear hb); (try clear hb2); (try clear hk); (try clear hi)))
      go_meet
      case rel => exact ⟨_, (true), (by first | rfl | (simp; done) | (simp [*]; done)), H', ⟨by first | omega | exact Nat.le_refl _⟩, ⟨bk_ BK583.out⟩, ⟨bk_ BK584.out⟩, ⟨bk_ BK585.out⟩, ⟨hb3_ HB.out GE583.out GE584.out GE585.out⟩⟩
  case rest =>
    clear HC4
    try clear c1
    try clear c2
    try clear p2
    try clear c5
    try clear c9
    try clear c10
    try clear c12
    try clear c13
    try clear c16
    try clear c19
    try clear c20
    try clear c23
    try clear c24
    try clear hcz14_0
    try clear hcz14_1
    try clear hcz17_0
    try clear hcz17_1
    try clear hcz21_0
    try clear hcz21_1
    try clear hcz25_0
    try clear hcz25_1
    try clear hfz14_0
    try clear hfz14_1
    try clear hfz17_0
    try clear hfz17_1
    try clear hfz21_0
    try clear hfz21_1
    try clear hfz25_0
    try clear hfz25_1
    obtain ⟨kq, x12_3, rfl, HA, HJ3, BK583, BK584, BK585, HB⟩ := hcut
    cases kq with
    | zero => exact absurd HA.out (by simp [impl_AppRead.j0])
    | succ kj3 =>
      have H := HA.out
      clear HA
      simp only [impl_AppRead.j0] at H
      by_cases c27 : x12_3 = true
      · subst c27
        have H1 : (some (false, 0, 0, false, 1)) = some (r1, r2, r3, r4, r5) := by rw [if_pos rfl] at H; exact H
        clear H
        have H := H1
        clear H1
        simp only [Option.some.injEq, Prod.mk.injEq] at H
        obtain ⟨rfl, rfl, rfl, rfl, rfl⟩ := H
        have hnb28 := NB585_583.out
        have hnc28 := NB583_585.out
        have hnb29 := NB585_584.out
        have hnc29 := NB584_585.out
        have hcz30_0 := bc_ BK585.out 0 (.bool false) rfl
        have hcz30_1 := bc_ BK585.out 1 (.int .i64 0) rfl
        have hfz30_0 := blk_frozen BK585.out 0
        have hfz30_1 := blk_frozen BK585.out 1
        go_wp2
        refine bodyPost_ret (results_list (rs := [.cell 6 66, .tmp 7, .tmp 8, .tmp 9]) rfl (by simp) (.cell gb585 66 #[.bool false, .int .i64 0] (0, 0) _ rfl (by (with_reducible repeat (first | refine blk_drewN ?_ _ | refine blk_drew ?_ | refine blk_alloc ?_ _)); refine blk_put (cs := #[.bool false, .int .i64 0]) ?_ 1 _ rfl; (with_reducible repeat (first | refine blk_drewN ?_ _ | refine blk_drew ?_ | refine blk_alloc ?_ _)); refine blk_put (cs := #[.bool false, .int .i64 0]) ?_ 0 _ rfl; (with_reducible repeat (first | refine blk_drewN ?_ _ | refine blk_drew ?_ | refine blk_alloc ?_ _)); exact BK585.out) Try.underlying66 rfl (by kernel_rfl) (.tmp (.tmp (.tmp .nil))))) rfl ?_
        exact ⟨er_, hb3_ HB.out GE583.out GE584.out GE585.out⟩
      · replace c27 := Bool.eq_false_iff.mpr c27
        subst c27
        have H1 : (if a1 = true then (impl_AppRead.j1 kj3 a1 false a0_0 a0_1 a2_0 a2_1) else (impl_AppRead.j1 kj3 a1 (!a0_0) a0_0 a0_1 a2_0 a2_1)) = some (r1, r2, r3, r4, r5) := by rw [if_neg (show ¬ (false = true) by decide)] at H; exact H
        clear H
        have H := H1
        clear H1
        have HC31 := Aside0.mk H
        clear H
        go_upto_region 3 with (fail)
        go_cut [25] (fun v25 wc => ∃ (kq : Nat) (x25_30 : Bool), v25 = .bool x25_30 ∧ Aside0 (impl_AppRead.j1 kq a1 x25_30 a0_0 a0_1 a2_0 a2_1 = some (r1, r2, r3, r4, r5)) ∧ Aside0 (kq ≤ kj3) ∧ Aside0 (wc.heap[gb583]? = some (.cells #[.bool a0_0, .int .i64 a0_1] 66 (0, 0))) ∧ Aside0 (wc.heap[gb584]? = some (.cells #[.int .i64 a2_0, .int .i64 a2_1] 81 (0, 0))) ∧ Aside0 (wc.heap[gb585]? = some (.cells #[.bool false, .int .i64 0] 66 (0, 0))) ∧ Aside0 (Below w.heap.size w wc))
        case first =>
          have H := HC31.out
          clear HC31
          by_cases c32 : a1 = true
          · subst c32
            have H1 : (impl_AppRead.j1 kj3 true false a0_0 a0_1 a2_0 a2_1) = some (r1, r2, r3, r4, r5) := by rw [if_pos rfl] at H; exact H
            clear H
            have H := H1
            clear H1
            have H' := Aside0.mk H
            clear H
            go_wp2
            go_meet
            case rel => exact ⟨_, (false), (by first | rfl | (simp; done) | (simp [*]; done)), H', ⟨by have := HJ3.out; first | omega | exact Nat.le_refl _⟩, ⟨bk_ BK583.out⟩, ⟨bk_ BK584.out⟩, ⟨bk_ BK585.out⟩, ⟨hb3_ HB.out GE583.out GE584.out GE585.out⟩⟩
          · replace c32 := Bool.eq_false_iff.mpr c32
            subst c32
            have H1 : (impl_AppRead.j1 kj3 false (!a0_0) a0_0 a0_1 a2_0 a2_1) = some (r1, r2, r3, r4, r5) := by rw [if_neg (show ¬ (false = true) by decide)] at H; exact H
            clear H
            have H := H1
            clear H1
            have H' := Aside0.mk H
            clear H
            have hnb33 := NB583_584.out
            have hnc33 := NB584_583.out
            have hnb34 := NB583_585.out
            have hnc34 := NB585_583.out
            have hcz35_0 := bc_ BK583.out 0 (.bool a0_0) rfl
            have hcz35_1 := bc_ BK583.out 1 (.int .i64 a0_1) rfl
            have hfz35_0 := blk_frozen BK583.out 0
            have hfz35_1 := blk_frozen BK583.out 1
            go_wp2
            go_meet
            case rel => exact ⟨_, (!a0_0), (by first | rfl | (simp; done) | (simp [*]; done)), H', ⟨by have := HJ3.out; first | omega | exact Nat.le_refl _⟩, ⟨bk_ BK583.out⟩, ⟨bk_ BK584.out⟩, ⟨bk_ BK585.out⟩, ⟨hb3_ HB.out GE583.out GE584.out GE585.out⟩⟩
        case rest =>
          clear HC31
          try clear c1
          try clear c2
          try clear p2
          try clear c3
          try clear c5
          try clear c9
          try clear c10
          try clear c12
          try clear c13
          try clear c16
          try clear c19
          try clear c20
          try clear c23
          try clear c24
          try clear c27
          try clear c28
          try clear c29
          try clear c32
          try clear c33
          try clear c34
          try clear hcz14_0
          try clear hcz14_1
          try clear hcz17_0
          try clear hcz17_1
          try clear hcz21_0
          try clear hcz21_1
          try clear hcz25_0
          try clear hcz25_1
          try clear hcz30_0
          try clear hcz30_1
          try clear hcz35_0
          try clear hcz35_1
          try clear hfz14_0
          try clear hfz14_1
          try clear hfz17_0
          try clear hfz17_1
          try clear hfz21_0
          try clear hfz21_1
          try clear hfz25_0
          try clear hfz25_1
          try clear hfz30_0
          try clear hfz30_1
          try clear hfz35_0
          try clear hfz35_1
          try clear p2
          obtain ⟨kq, x25_30, rfl, HA, HJ30, BK583, BK584, BK585, HB⟩ := hcut
          cases kq with
          | zero => exact absurd HA.out (by simp [impl_AppRead.j1])
          | succ kj30 =>
            have H := HA.out
            clear HA
            simp only [impl_AppRead.j1] at H
            by_cases c36 : x25_30 = true
            · subst c36
              have H1 : (some (a0_0, a0_1, 0, false, 2)) = some (r1, r2, r3, r4, r5) := by rw [if_pos rfl] at H; exact H
              clear H
              have H := H1
              clear H1
              simp only [Option.some.injEq, Prod.mk.injEq] at H
              obtain ⟨rfl, rfl, rfl, rfl, rfl⟩ := H
              have hnb37 := NB583_584.out
              have hnc37 := NB584_583.out
              have hnb38 := NB583_585.out
              have hnc38 := NB585_583.out
              have hcz39_0 := bc_ BK583.out 0 (.bool a0_0) rfl
              have hcz39_1 := bc_ BK583.out 1 (.int .i64 a0_1) rfl
              have hfz39_0 := blk_frozen BK583.out 0
              have hfz39_1 := blk_frozen BK583.out 1
              have hnb40 := NB585_584.out
              have hnc40 := NB584_585.out
              have hcz41_0 := bc_ BK585.out 0 (.bool false) rfl
              have hcz41_1 := bc_ BK585.out 1 (.int .i64 0) rfl
              have hfz41_0 := blk_frozen BK585.out 0
              have hfz41_1 := blk_frozen BK585.out 1
              go_wp2
              refine bodyPost_ret (results_list (rs := [.cell 6 66, .tmp 7, .tmp 8, .tmp 9]) rfl (by simp) (.cell gb585 66 #[.bool a0_0, .int .i64 a0_1] (0, 0) _ rfl (by (with_reducible repeat (first | refine blk_drewN ?_ _ | refine blk_drew ?_ | refine blk_alloc ?_ _)); refine blk_put (cs := #[.bool a0_0, .int .i64 0]) ?_ 1 _ rfl; (with_reducible repeat (first | refine blk_drewN ?_ _ | refine blk_drew ?_ | refine blk_alloc ?_ _)); refine blk_put (cs := #[.bool false, .int .i64 0]) ?_ 0 _ rfl; (with_reducible repeat (first | refine blk_drewN ?_ _ | refine blk_drew ?_ | refine blk_alloc ?_ _)); exact BK585.out) Try.underlying66 rfl (by kernel_rfl) (.tmp (.tmp (.tmp .nil))))) rfl ?_
              exact ⟨er_, hb3_ HB.out GE583.out GE584.out GE585.out⟩
            · replace c36 := Bool.eq_false_iff.mpr c36
              subst c36
              have H1 : (if a1 = true then (if a0_0 = true then (impl_AppRead.j2 kj30 (decide (a0_1 > a2_1)) a0_0 a0_1 a2_0 a2_1) else (impl_AppRead.j2 kj30 false a0_0 a0_1 a2_0 a2_1)) else (impl_AppRead.j2 kj30 true a0_0 a0_1 a2_0 a2_1)) = some (r1, r2, r3, r4, r5) := by rw [if_neg (show ¬ (false = true) by decide)] at H; exact H
              clear H
              have H := H1
              clear H1
              have HC42 := Aside0.mk H
              clear H
              go_upto_region 5 with (fail)
              go_cut [34] (fun v34 wc => ∃ (kq : Nat) (x34_41 : Bool), v34 = .bool x34_41 ∧ Aside0 (impl_AppRead.j2 kq x34_41 a0_0 a0_1 a2_0 a2_1 = some (r1, r2, r3, r4, r5)) ∧ Aside0 (kq ≤ kj30) ∧ Aside0 (wc.heap[gb583]? = some (.cells #[.bool a0_0, .int .i64 a0_1] 66 (0, 0))) ∧ Aside0 (wc.heap[gb584]? = some (.cells #[.int .i64 a2_0, .int .i64 a2_1] 81 (0, 0))) ∧ Aside0 (wc.heap[gb585]? = some (.cells #[.bool false, .int .i64 0] 66 (0, 0))) ∧ Aside0 (Below w.heap.size w wc))
              case first =>
                have H := HC42.out
                clear HC42
                by_cases c43 : a1 = true
                · subst c43
                  have H1 : (if a0_0 = true then (impl_AppRead.j2 kj30 (decide (a0_1 > a2_1)) a0_0 a0_1 a2_0 a2_1) else (impl_AppRead.j2 kj30 false a0_0 a0_1 a2_0 a2_1)) = some (r1, r2, r3, r4, r5) := by rw [if_pos rfl] at H; exact H
                  clear H
                  have H := H1
                  clear H1
                  by_cases c44 : a0_0 = true
                  · subst c44
                    have H1 : (impl_AppRead.j2 kj30 (decide (a0_1 > a2_1)) true a0_1 a2_0 a2_1) = some (r1, r2, r3, r4, r5) := by rw [if_pos rfl] at H; exact H
                    clear H
                    have H := H1
                    clear H1
                    have H' := Aside0.mk H
                    clear H
                    have hnb45 := NB583_584.out
                    have hnc45 := NB584_583.out
                    have hnb46 := NB583_585.out
                    have hnc46 := NB585_583.out
                    have hcz47_0 := bc_ BK583.out 0 (.bool true) rfl
                    have hcz47_1 := bc_ BK583.out 1 (.int .i64 a0_1) rfl
                    have hfz47_0 := blk_frozen BK583.out 0
                    have hfz47_1 := blk_frozen BK583.out 1
                    have hnb48 := NB584_585.out
                    have hnc48 := NB585_584.out
                    have hcz49_0 := bc_ BK584.out 0 (.int .i64 a2_0) rfl
                    have hcz49_1 := bc_ BK584.out 1 (.int .i64 a2_1) rfl
                    have hfz49_0 := blk_frozen BK584.out 0
                    have hfz49_1 := blk_frozen BK584.out 1
                    go_wp2
                    go_meet
                    case rel => exact ⟨_, (decide (a0_1 > a2_1)), (by first | rfl | (simp; done) | (simp [*]; done)), H', ⟨by have := HJ3.out; have := HJ30.out; first | omega | exact Nat.le_refl _⟩, ⟨bk_ BK583.out⟩, ⟨bk_ BK584.out⟩, ⟨bk_ BK585.out⟩, ⟨hb3_ HB.out GE583.out GE584.out GE585.out⟩⟩
                  · replace c44 := Bool.eq_false_iff.mpr c44
                    subst c44
                    have H1 : (impl_AppRead.j2 kj30 false false a0_1 a2_0 a2_1) = some (r1, r2, r3, r4, r5) := by rw [if_neg (show ¬ (false = true) by decide)] at H; exact H
                    clear H
                    have H := H1
                    clear H1
                    have H' := Aside0.mk H
                    clear H
                    have hnb50 := NB583_584.out
                    have hnc50 := NB584_583.out
                    have hnb51 := NB583_585.out
                    have hnc51 := NB585_583.out
                    have hcz52_0 := bc_ BK583.out 0 (.bool false) rfl
                    have hcz52_1 := bc_ BK583.out 1 (.int .i64 a0_1) rfl
                    have hfz52_0 := blk_frozen BK583.out 0
                    have hfz52_1 := blk_frozen BK583.out 1
                    go_wp2
                    go_meet
                    case rel => exact ⟨_, (false), (by first | rfl | (simp; done) | (simp [*]; done)), H', ⟨by have := HJ3.out; have := HJ30.out; first | omega | exact Nat.le_refl _⟩, ⟨bk_ BK583.out⟩, ⟨bk_ BK584.out⟩, ⟨bk_ BK585.out⟩, ⟨hb3_ HB.out GE583.out GE584.out GE585.out⟩⟩
                · replace c43 := Bool.eq_false_iff.mpr c43
                  subst c43
                  have H1 : (impl_AppRead.j2 kj30 true a0_0 a0_1 a2_0 a2_1) = some (r1, r2, r3, r4, r5) := by rw [if_neg (show ¬ (false = true) by decide)] at H; exact H
                  clear H
                  have H := H1
                  clear H1
                  have H' := Aside0.mk H
                  clear H
                  go_wp2
                  go_meet
                  case rel => exact ⟨_, (true), (by first | rfl | (simp; done) | (simp [*]; done)), H', ⟨by have := HJ3.out; have := HJ30.out; first | omega | exact Nat.le_refl _⟩, ⟨bk_ BK583.out⟩, ⟨bk_ BK584.out⟩, ⟨bk_ BK585.out⟩, ⟨hb3_ HB.out GE583.out GE584.out GE585.out⟩⟩
              case rest =>
                clear HC42
                try clear c1
                try clear c2
                try clear p2
                try clear c3
                try clear c4
                try clear c5
                try clear c9
                try clear c10
                try clear c12
                try clear c13
                try clear c16
                try clear c19
                try clear c20
                try clear c23
                try clear c24
                try clear c27
                try clear c28
                try clear c29
                try clear c32
                try clear c33
                try clear c34
                try clear c36
                try clear c37
                try clear c38
                try clear c40
                try clear c43
                try clear c44
                try clear c45
                try clear c46
                try clear c48
                try clear c50
                try clear c51
                try clear hcz14_0
                try clear hcz14_1
                try clear hcz17_0
                try clear hcz17_1
                try clear hcz21_0
                try clear hcz21_1
                try clear hcz25_0
                try clear hcz25_1
                try clear hcz30_0
                try clear hcz30_1
                try clear hcz35_0
                try clear hcz35_1
                try clear hcz39_0
                try clear hcz39_1
                try clear hcz41_0
                try clear hcz41_1
                try clear hcz47_0
                try clear hcz47_1
                try clear hcz49_0
                try clear hcz49_1
                try clear hcz52_0
                try clear hcz52_1
                try clear hfz14_0
                try clear hfz14_1
                try clear hfz17_0
                try clear hfz17_1
                try clear hfz21_0
                try clear hfz21_1
                try clear hfz25_0
                try clear hfz25_1
                try clear hfz30_0
                try clear hfz30_1
                try clear hfz35_0
                try clear hfz35_1
                try clear hfz39_0
                try clear hfz39_1
                try clear hfz41_0
                try clear hfz41_1
                try clear hfz47_0
                try clear hfz47_1
                try clear hfz49_0
                try clear hfz49_1
                try clear hfz52_0
                try clear hfz52_1
                try clear p2
                obtain ⟨kq, x34_41, rfl, HA, HJ41, BK583, BK584, BK585, HB⟩ := hcut
                cases kq with
                | zero => exact absurd HA.out (by simp [impl_AppRead.j2])
                | succ kj41 =>
                  have H := HA.out
                  clear HA
                  simp only [impl_AppRead.j2] at H
                  by_cases c53 : x34_41 = true
                  · subst c53
                    have H1 : (some (a0_0, a0_1, a0_1, true, 0)) = some (r1, r2, r3, r4, r5) := by rw [if_pos rfl] at H; exact H
                    clear H
                    have H := H1
                    clear H1
                    simp only [Option.some.injEq, Prod.mk.injEq] at H
                    obtain ⟨rfl, rfl, rfl, rfl, rfl⟩ := H
                    try go_wp2
                    have n0_ := Aside0.mk (blk_drew BK583.out)
                    have n1_ := Aside0.mk (blk_drew BK584.out)
                    have n2_ := Aside0.mk (blk_drew BK585.out)
                    have n3_ := Aside0.mk (below_drew1 HB.out)
                    clear BK583
                    clear BK584
                    clear BK585
                    clear HB
                    have BK583 := n0_
                    have BK584 := n1_
                    have BK585 := n2_
                    have HB := n3_
                    clear n0_ n1_ n2_ n3_
                    refine start_ (n := 7) (S := fun w' => w'.cell? ⟨gb583, 0, none⟩ = some (.bool a0_0) ∧ w'.cell? ⟨gb583, 1, none⟩ = some (.int .i64 a0_1)) (ds := []) #[false, false, false, false, false, false, false] (by kernel_rfl) rfl rfl ⟨(blk_cell BK583.out 0).trans rfl, (blk_cell BK583.out 1).trans rfl⟩ (fun hHeld => ?_)
                    generalize wc.drew = w54 at BK583 BK584 BK585 HB hHeld ⊢
                    refine pure_ (i := 1) (N := some 49) (v := ?_) (a' := ?_) #[false, true, false, false, false, false, false] rfl rfl (by kernel_rfl) (fun _ _ _ h => h) (Or.inl ⟨by rfl, ?_⟩) ?_ ?_
                    rotate_left
                    · intro w'
                      go_simp
                      with_reducible rfl
                    rotate_left
                    · simp only [Act.put, List.setIfInBounds_toArray, List.set_cons_zero, List.set_cons_succ, i64_w, i32_w]
                      rfl
                    refine take_ (i := 0) (N := some 48) (v := ?_) (a' := ?_) #[true, true, false, false, false, false, false] rfl rfl (by kernel_rfl) (fun _ _ _ h => h) (Or.inl ⟨by rfl, ?_⟩) hHeld ?_ ?_
                    rotate_left
                    · rintro w' ⟨s0, s1⟩
                      go_simp
                      with_reducible rfl
                    rotate_left
                    · simp only [Act.put, List.setIfInBounds_toArray, List.set_cons_zero, List.set_cons_succ, i64_w, i32_w]
                      rfl
                    refine take_ (i := 2) (N := some 50) (v := ?_) (a' := ?_) #[true, true, true, false, false, false, false] rfl rfl (by kernel_rfl) (fun _ _ _ h => h) (Or.inl ⟨by rfl, ?_⟩) hHeld ?_ ?_
                    rotate_left
                    · rintro w' ⟨s0, s1⟩
                      go_simp
                      with_reducible rfl
                    rotate_left
                    · simp only [Act.put, List.setIfInBounds_toArray, List.set_cons_zero, List.set_cons_succ, i64_w, i32_w]
                      rfl
                    refine one_ (i := 3) (N := none) #[true, true, true, true, false, false, false] rfl rfl (by kernel_rfl) (by decide) (fun K hK => ?_)
                    have hs55 : w54.cell? ⟨gb585, 0, none⟩ = some (.bool false) := (blk_cell BK585.out 0).trans rfl
                    have hfs55 := blk_frozen BK585.out 0
                    have hns55_0 := NB583_585.out
                    have hns55_1 := NB584_585.out
                    have hms55_0 := NB585_583.out
                    have hms55_1 := NB585_584.out
                    have hs56 : w54.cell? ⟨gb585, 1, none⟩ = some (.int .i64 0) := (blk_cell BK585.out 1).trans rfl
                    have hfs56 := blk_frozen BK585.out 1
                    have hns56_0 := NB583_585.out
                    have hns56_1 := NB584_585.out
                    have hms56_0 := NB585_583.out
                    have hms56_1 := NB585_584.out
                    refine skip_ (w1 := ?_) (by rfl) rfl ?_ ?_
                    rotate_left
                    · go_simp
                      rfl
                    refine hK.out _ _ ⟨((cell_far (p := ⟨gb585, _, none⟩) NB583_585.out _).trans (((cell_far (p := ⟨gb585, _, none⟩) NB583_585.out _).trans (hHeld.1)))), ((cell_far (p := ⟨gb585, _, none⟩) NB583_585.out _).trans (((cell_far (p := ⟨gb585, _, none⟩) NB583_585.out _).trans (hHeld.2))))⟩ (fun hHeld => ?_)
                    clear hK K
                    refine pure_ (i := 4) (N := some 7) (v := ?_) (a' := ?_) #[true, true, true, true, true, false, false] rfl rfl (by kernel_rfl) (fun _ _ _ h => h) (Or.inl ⟨by rfl, ?_⟩) ?_ ?_
                    rotate_left
                    · intro w'
                      go_simp
                      with_reducible rfl
                    rotate_left
                    · simp only [Act.put, List.setIfInBounds_toArray, List.set_cons_zero, List.set_cons_succ, i64_w, i32_w]
                      rfl
                    refine pure_ (i := 5) (N := some 8) (v := ?_) (a' := ?_) #[true, true, true, true, true, true, false] rfl rfl (by kernel_rfl) (fun _ _ _ h => h) (Or.inl ⟨by rfl, ?_⟩) ?_ ?_
                    rotate_left
                    · intro w'
                      go_simp
                      with_reducible rfl
                    rotate_left
                    · simp only [Act.put, List.setIfInBounds_toArray, List.set_cons_zero, List.set_cons_succ, i64_w, i32_w]
                      rfl
                    refine pure_ (i := 6) (N := some 9) (v := ?_) (a' := ?_) #[true, true, true, true, true, true, true] rfl rfl (by kernel_rfl) (fun _ _ _ h => h) (Or.inl ⟨by rfl, ?_⟩) ?_ ?_
                    rotate_left
                    · intro w'
                      go_simp
                      with_reducible rfl
                    rotate_left
                    · simp only [Act.put, List.setIfInBounds_toArray, List.set_cons_zero, List.set_cons_succ, i64_w, i32_w]
                      rfl
                    refine done_ (by kernel_rfl) ?_
                    try go_wp2
                    refine bodyPost_ret (results_list (rs := [.cell 6 66, .tmp 7, .tmp 8, .tmp 9]) rfl (by simp) (.cell gb585 66 #[.bool a0_0, .int .i64 a0_1] (0, 0) _ rfl (by (with_reducible repeat (first | refine blk_drewN ?_ _ | refine blk_drew ?_ | refine blk_alloc ?_ _)); refine blk_put (cs := #[.bool a0_0, .int .i64 0]) ?_ 1 _ rfl; (with_reducible repeat (first | refine blk_drewN ?_ _ | refine blk_drew ?_ | refine blk_alloc ?_ _)); refine blk_put (cs := #[.bool false, .int .i64 0]) ?_ 0 _ rfl; (with_reducible repeat (first | refine blk_drewN ?_ _ | refine blk_drew ?_ | refine blk_alloc ?_ _)); exact BK585.out) Try.underlying66 rfl (by kernel_rfl) (.tmp (.tmp (.tmp .nil))))) rfl ?_
                    exact ⟨er_, hb3_ HB.out GE583.out GE584.out GE585.out⟩
                  · replace c53 := Bool.eq_false_iff.mpr c53
                    subst c53
                    have H1 : ((impl_Middle.f a2_0 a2_1).bind fun bt588 => (if a0_0 = true then (some (true, mx bt588.1 a0_1, mx bt588.1 a0_1, false, 0)) else (some (true, bt588.1, bt588.1, false, 0)))) = some (r1, r2, r3, r4, r5) := by rw [if_neg (show ¬ (false = true) by decide)] at H; exact H
                    clear H
                    have H := H1
                    clear H1
                    replace H := Option.bind_eq_some_iff.mp H
                    obtain ⟨⟨t588, t589⟩, A570, H⟩ := H
                    replace H : (if a0_0 = true then (some (true, mx t588 a0_1, mx t588 a0_1, false, 0)) else (some (true, t588, t588, false, 0))) = some (r1, r2, r3, r4, r5) := H
                    have A57 := Aside0.mk A570
                    clear A570
                    by_cases c58 : a0_0 = true
                    · subst c58
                      have H1 : (some (true, mx t588 a0_1, mx t588 a0_1, false, 0)) = some (r1, r2, r3, r4, r5) := by rw [if_pos rfl] at H; exact H
                      clear H
                      have H := H1
                      clear H1
                      obtain ⟨ji59, hji59⟩ : ∃ j_ : Int, (mx t588 a0_1) = j_ := ⟨_, rfl⟩
                      replace H : (some (true, ji59, ji59, false, 0)) = some (r1, r2, r3, r4, r5) := by first | (rw [hji59] at H; exact H) | (simp only [hji59] at H ⊢; exact H)
                      (try rw [hji59] at A57)
                      have hji59_ : (if t588 < a0_1 then a0_1 else t588) = ji59 := hji59
                      simp only [Option.some.injEq, Prod.mk.injEq] at H
                      obtain ⟨rfl, rfl, rfl, rfl, rfl⟩ := H
                      have hnb60 := NB584_583.out
                      have hnc60 := NB583_584.out
                      have hnb61 := NB584_585.out
                      have hnc61 := NB585_584.out
                      have hcz62_0 := bc_ BK584.out 0 (.int .i64 a2_0) rfl
                      have hcz62_1 := bc_ BK584.out 1 (.int .i64 a2_1) rfl
                      have hfz62_0 := blk_frozen BK584.out 0
                      have hfz62_1 := blk_frozen BK584.out 1
                      go_wp2_with (first | ((with_reducible refine gate_callee (f := 96) rfl ?_); refine goesL_ (some 53) rfl rfl Try.func96 (by kernel_rfl) rfl #[.agg #[.int .i64 a2_0, .int .i64 a2_1]] rfl arr_ ?_; (with_reducible refine (impl_Middle.calls a2_0 a2_1 t588 t589 _ A57.out).mono ?_); rintro e w63 ⟨rfl, hb⟩; refine ⟨_, rfl, ?_⟩; have n0_ := Aside0.mk (bb_ BK583.out hb); have n1_ := Aside0.mk (bb_ BK584.out hb); have n2_ := Aside0.mk (bb_ BK585.out hb); have n3_ := Aside0.mk (below_step (hb3_ HB.out GE583.out GE584.out GE585.out) hb); clear BK583; clear BK584; clear BK585; clear HB; have BK583 := n0_; have BK584 := n1_; have BK585 := n2_; have HB := n3_; clear n0_ n1_ n2_ n3_; (try clear hb); (try clear hb2); (try clear hk); (try clear hi); have hnb64 := NB583_585.out; have hnc64 := NB585_583.out; have hcz65_0 := bc_ BK583.out 0 (.bool true) rfl; have hcz65_1 := bc_ BK583.out 1 (.int .i64 a0_1) rfl; have hfz65_0 := blk_frozen BK583.out 0; have hfz65_1 := blk_frozen BK583.out 1; have hcz66_0 := bc_ BK585.out 0 (.bool false) rfl; have hcz66_1 := bc_ BK585.out 1 (.int .i64 0) rfl; have hfz66_0 := blk_frozen BK585.out 0; have hfz66_1 := blk_frozen BK585.out 1))
                      refine bodyPost_ret (results_list (rs := [.cell 6 66, .tmp 7, .tmp 8, .tmp 9]) rfl (by simp) (.cell gb585 66 #[.bool true, .int .i64 ji59] (0, 0) _ rfl (by (with_reducible repeat (first | refine blk_drewN ?_ _ | refine blk_drew ?_ | refine blk_alloc ?_ _)); refine blk_put (cs := #[.bool true, .int .i64 0]) ?_ 1 _ rfl; (with_reducible repeat (first | refine blk_drewN ?_ _ | refine blk_drew ?_ | refine blk_alloc ?_ _)); refine blk_put (cs := #[.bool false, .int .i64 0]) ?_ 0 _ rfl; (with_reducible repeat (first | refine blk_drewN ?_ _ | refine blk_drew ?_ | refine blk_alloc ?_ _)); exact BK585.out) Try.underlying66 rfl (by kernel_rfl) (.tmp (.tmp (.tmp .nil))))) rfl ?_
                      exact ⟨by first | rfl | (simp [errW_none, errW_some] <;> rfl) | (simp only [← hji59]; first | rfl | (simp [errW_none, errW_some] <;> rfl)) | (simp [*, errW_none, errW_some] <;> rfl), hb3_ HB.out GE583.out GE584.out GE585.out⟩
                    · replace c58 := Bool.eq_false_iff.mpr c58
                      subst c58
                      have H1 : (some (true, t588, t588, false, 0)) = some (r1, r2, r3, r4, r5) := by rw [if_neg (show ¬ (false = true) by decide)] at H; exact H
                      clear H
                      have H := H1
                      clear H1
                      simp only [Option.some.injEq, Prod.mk.injEq] at H
                      obtain ⟨rfl, rfl, rfl, rfl, rfl⟩ := H
                      have hnb67 := NB584_583.out
                      have hnc67 := NB583_584.out
                      have hnb68 := NB584_585.out
                      have hnc68 := NB585_584.out
                      have hcz69_0 := bc_ BK584.out 0 (.int .i64 a2_0) rfl
                      have hcz69_1 := bc_ BK584.out 1 (.int .i64 a2_1) rfl
                      have hfz69_0 := blk_frozen BK584.out 0
                      have hfz69_1 := blk_frozen BK584.out 1
                      go_wp2_with (first | ((with_reducible refine gate_callee (f := 96) rfl ?_); refine goesL_ (some 53) rfl rfl Try.func96 (by kernel_rfl) rfl #[.agg #[.int .i64 a2_0, .int .i64 a2_1]] rfl arr_ ?_; (with_reducible refine (impl_Middle.calls a2_0 a2_1 t588 t589 _ A57.out).mono ?_); rintro e w70 ⟨rfl, hb⟩; refine ⟨_, rfl, ?_⟩; have n0_ := Aside0.mk (bb_ BK583.out hb); have n1_ := Aside0.mk (bb_ BK584.out hb); have n2_ := Aside0.mk (bb_ BK585.out hb); have n3_ := Aside0.mk (below_step (hb3_ HB.out GE583.out GE584.out GE585.out) hb); clear BK583; clear BK584; clear BK585; clear HB; have BK583 := n0_; have BK584 := n1_; have BK585 := n2_; have HB := n3_; clear n0_ n1_ n2_ n3_; (try clear hb); (try clear hb2); (try clear hk); (try clear hi); have hnb71 := NB583_585.out; have hnc71 := NB585_583.out; have hcz72_0 := bc_ BK583.out 0 (.bool false) rfl; have hcz72_1 := bc_ BK583.out 1 (.int .i64 a0_1) rfl; have hfz72_0 := blk_frozen BK583.out 0; have hfz72_1 := blk_frozen BK583.out 1; have hcz73_0 := bc_ BK585.out 0 (.bool false) rfl; have hcz73_1 := bc_ BK585.out 1 (.int .i64 0) rfl; have hfz73_0 := blk_frozen BK585.out 0; have hfz73_1 := blk_frozen BK585.out 1))
                      refine bodyPost_ret (results_list (rs := [.cell 6 66, .tmp 7, .tmp 8, .tmp 9]) rfl (by simp) (.cell gb585 66 #[.bool true, .int .i64 t588] (0, 0) _ rfl (by (with_reducible repeat (first | refine blk_drewN ?_ _ | refine blk_drew ?_ | refine blk_alloc ?_ _)); refine blk_put (cs := #[.bool true, .int .i64 0]) ?_ 1 _ rfl; (with_reducible repeat (first | refine blk_drewN ?_ _ | refine blk_drew ?_ | refine blk_alloc ?_ _)); refine blk_put (cs := #[.bool false, .int .i64 0]) ?_ 0 _ rfl; (with_reducible repeat (first | refine blk_drewN ?_ _ | refine blk_drew ?_ | refine blk_alloc ?_ _)); exact BK585.out) Try.underlying66 rfl (by kernel_rfl) (.tmp (.tmp (.tmp .nil))))) rfl ?_
                      exact ⟨er_, hb3_ HB.out GE583.out GE584.out GE585.out⟩
end Go.Proofs.Ytcgdnfaclbnflaa.P

namespace Go.Proofs.Ytcgdnfaclbnflaa.P
open Go.RowKit Go.Proofs.YtcgdnfaclbnflaaW.PrintWords Go.Proofs.YtcgdnfaclbnflaaW.PrintLast Go.Proofs.YtcgdnfaclbnflaaW.PrintMore
attribute [local go_sem] max2_int min2_int max_two min_two max_three min_three max_four min_four
set_option linter.unusedVariables false
set_option linter.unusedSimpArgs false
def impl_AppRun.l0 : Nat → List (S88) → List (S83) → Int → Int → Bool → Int → Option ((List (S88)) × Bool × Int)
  | 0, _, _, _, _, _, _ => none
  | k + 1, x6, x18, x19, x20, x591000, x591001 => if x20 < x19 then (if 0 ≤ x20 then (if x20 < (x18.length : Int) then ((impl_AppRead.f k x591000 x591001 ((rd_T83 x18 x20).f0) ((rd_T83 x18 x20).f1.f0) ((rd_T83 x18 x20).f1.f1)).bind fun bt597 => (if x6.length < 5864062014805 then ((some (x6 ++ [(⟨bt597.2.2.1, bt597.2.2.2.1, bt597.2.2.2.2⟩ : S88)] : List (S88))).bind fun y603 => (if bt597.2.2.2.2 = 1 then (impl_AppRun.l0 k y603 x18 x19 (wrap64 (x20 + 1)) x591000 x591001) else (impl_AppRun.l0 k y603 x18 x19 (wrap64 (x20 + 1)) bt597.1 bt597.2.1))) else (none))) else (none)) else (none)) else (some (x6, x591000, x591001))
def impl_AppRun.f (k : Nat) (a0_0 : Bool) (a0_1 : Int) (l1 : List (S83)) : Option ((List (S88)) × Bool × Int) := if (l1.length : Int) > 200 then (some (([] : List (S88)), a0_0, a0_1)) else (impl_AppRun.l0 k (([] : List (S88))) l1 (l1.length : Int) 0 a0_0 a0_1)
set_option maxHeartbeats 8000000 in
set_option maxRecDepth 100000 in
theorem impl_AppRun.calls (k : Nat) (a0_0 : Bool) (a0_1 : Int) (A1 : Option Addr) (c1 : Nat) (l1 : List (S83)) (r1 : List (S88)) (r2 : Bool) (r3 : Int) (w : World) (hr1 : Kd.C k83 w A1 l1.length l1) (hc1 : l1.length ≤ c1) (h : impl_AppRun.f k a0_0 a0_1 l1 = some (r1, r2, r3)) :
    Calls Try.prog 41 #[.agg #[.bool a0_0, .int .i64 a0_1], .slice A1 l1.length c1] w fun e w' => ∃ v0_ : Value, e = .returned (.tuple #[v0_, .agg #[.bool r2, .int .i64 r3]]) ∧ Kd.R k88 88 w' w.heap.size (fun _ => True) v0_ r1 ∧ Below w.heap.size w w' := by
  have hu66 := Try.underlying66
  have hu83 := Try.underlying83
  have hu81 := Try.underlying81
  have hu88 := Try.underlying88
  have HR1 := Aside0.mk hr1
  have HC1 := Aside0.mk hc1
  clear hr1 hc1
  have HB := Aside0.mk (Below.refl w.heap.size w)
  have H : (if (l1.length : Int) > 200 then (some (([] : List (S88)), a0_0, a0_1)) else (impl_AppRun.l0 k (([] : List (S88))) l1 (l1.length : Int) 0 a0_0 a0_1)) = some (r1, r2, r3) := h
  clear h
  by_cases c3 : (l1.length : Int) > 200
  · rw [if_pos c3] at H
    have c3b0 : decide (200 < (l1.length : Int)) = true := decide_eq_true c3
    have c3b1 : decide (200 < l1.length) = true := decide_eq_true (by omega)
    clear c3
    simp only [Option.some.injEq, Prod.mk.injEq] at H
    obtain ⟨rfl, rfl, rfl⟩ := H
    go_enter Try.func41, Try.ntmps41
    try go_wp2_with (first | ((with_reducible refine gate_dst (N := 2) rfl ?_); refine box_event ?hg (N := 2) ?hd (cs := #[.bool a0_0, .int .i64 a0_1]) (t := 66) ?hr ?_; (case hd => rfl); (case hg => rfl); (case hr => first | (go_simp; done) | (go_simp; rfl)); intro gb590 hg w4 hbox hb; have n0_ := Aside0.mk (below_step (hb_ HB.out) hb); have n1_ := Aside0.mk (hbox); have n2_ := Aside0.mk ((by rw [hg]; exact (below_size (hb_ HB.out)) : w.heap.size ≤ gb590)); have n3_ := Aside0.mk ((by rw [hg]; exact (below_size (hb_ HB.out)) : w.heap.size ≤ gb590)); clear HB; have HB := n0_; have BK590 := n1_; have GW590 := n2_; have GE590 := n3_; clear n0_ n1_ n2_ n3_; clear hb hbox hg) | ((with_reducible refine gate_dst (N := 5) rfl ?_); refine box_event ?hg (N := 5) ?hd (cs := #[.bool false, .int .i64 0]) (t := 66) ?hr ?_; (case hd => rfl); (case hg => rfl); (case hr => first | (go_simp; done) | (go_simp; rfl)); intro gb591 hg w5 hbox hb; have n0_ := Aside0.mk (bb_ BK590.out hb); have n1_ := Aside0.mk (below_step (hb1_ HB.out GE590.out) hb); have n2_ := Aside0.mk (hbox); have n3_ := Aside0.mk ((by rw [hg]; exact (below_size (hb1_ HB.out GE590.out)) : w.heap.size ≤ gb591)); have n4_ := Aside0.mk ((by rw [hg]; exact (below_size (hb1_ HB.out GE590.out)) : w.heap.size ≤ gb591)); have n5_ := Aside0.mk ((bl_ hg BK590.out : gb590 ≠ gb591)); have n6_ := Aside0.mk ((bg_ hg BK590.out : gb591 ≠ gb590)); clear BK590; clear HB; have BK590 := n0_; have HB := n1_; have BK591 := n2_; have GW591 := n3_; have GE591 := n4_; have NB590_591 := n5_; have NB591_590 := n6_; clear n0_ n1_ n2_ n3_ n4_ n5_ n6_; clear hb hbox hg))
    have n0_ := Aside0.mk (blk_drew BK590.out)
    have n1_ := Aside0.mk (blk_drew BK591.out)
    have n2_ := Aside0.mk (below_drew1 HB.out)
    clear BK590
    clear BK591
    clear HB
    have BK590 := n0_
    have BK591 := n1_
    have HB := n2_
    clear n0_ n1_ n2_
    refine start_ (n := 3) (S := fun w' => w'.cell? ⟨gb590, 0, none⟩ = some (.bool a0_0) ∧ w'.cell? ⟨gb590, 1, none⟩ = some (.int .i64 a0_1)) (ds := []) #[false, false, false] (by kernel_rfl) rfl rfl ⟨(blk_cell BK590.out 0).trans rfl, (blk_cell BK590.out 1).trans rfl⟩ (fun hHeld => ?_)
    generalize w5.drew = w6 at BK590 BK591 HB hHeld ⊢
    refine pure_ (i := 1) (N := some 4) (v := ?_) (a' := ?_) #[false, true, false] rfl rfl (by kernel_rfl) (fun _ _ _ h => h) (Or.inl ⟨by rfl, ?_⟩) ?_ ?_
    rotate_left
    · intro w'
      go_simp
      with_reducible rfl
    rotate_left
    · simp only [Act.put, List.setIfInBounds_toArray, List.set_cons_zero, List.set_cons_succ, i64_w, i32_w]
      rfl
    refine take_ (i := 0) (N := some 16) (v := ?_) (a' := ?_) #[true, true, false] rfl rfl (by kernel_rfl) (fun _ _ _ h => h) (Or.inl ⟨by rfl, ?_⟩) hHeld ?_ ?_
    rotate_left
    · rintro w' ⟨s0, s1⟩
      go_simp
      with_reducible rfl
    rotate_left
    · simp only [Act.put, List.setIfInBounds_toArray, List.set_cons_zero, List.set_cons_succ, i64_w, i32_w]
      rfl
    refine one_ (i := 2) (N := none) #[true, true, true] rfl rfl (by kernel_rfl) (by decide) (fun K hK => ?_)
    have hs7 : w6.cell? ⟨gb591, 0, none⟩ = some (.bool false) := (blk_cell BK591.out 0).trans rfl
    have hfs7 := blk_frozen BK591.out 0
    have hns7_0 := NB590_591.out
    have hms7_0 := NB591_590.out
    have hs8 : w6.cell? ⟨gb591, 1, none⟩ = some (.int .i64 0) := (blk_cell BK591.out 1).trans rfl
    have hfs8 := blk_frozen BK591.out 1
    have hns8_0 := NB590_591.out
    have hms8_0 := NB591_590.out
    refine skip_ (w1 := ?_) (by rfl) rfl ?_ ?_
    rotate_left
    · go_simp
      rfl
    refine hK.out _ _ ⟨((cell_far (p := ⟨gb591, _, none⟩) NB590_591.out _).trans (((cell_far (p := ⟨gb591, _, none⟩) NB590_591.out _).trans (hHeld.1)))), ((cell_far (p := ⟨gb591, _, none⟩) NB590_591.out _).trans (((cell_far (p := ⟨gb591, _, none⟩) NB590_591.out _).trans (hHeld.2))))⟩ (fun hHeld => ?_)
    clear hK K
    refine done_ (by kernel_rfl) ?_
    try go_wp2
    refine bodyPost_ret (results_tc rfl _ _ gb591 66 #[.bool a0_0, .int .i64 a0_1] (0, 0) _ rfl (by (with_reducible repeat (first | refine blk_drewN ?_ _ | refine blk_drew ?_ | refine blk_alloc ?_ _)); refine blk_put (cs := #[.bool a0_0, .int .i64 0]) ?_ 1 _ rfl; (with_reducible repeat (first | refine blk_drewN ?_ _ | refine blk_drew ?_ | refine blk_alloc ?_ _)); refine blk_put (cs := #[.bool false, .int .i64 0]) ?_ 0 _ rfl; (with_reducible repeat (first | refine blk_drewN ?_ _ | refine blk_drew ?_ | refine blk_alloc ?_ _)); exact BK591.out) Try.underlying66 rfl (by kernel_rfl)) rfl ?_
    exact ⟨_, er_, by first | exact Kd.R_nil _ _ _ _ _ | exact Kd.N_nil _ _ _ _ _ | exact Kd.V_nil _ _ _ _ _ | exact Kd.Q_nil _ _ _ _ _ | exact Kd.S_nil _ _ _ _ _, hb2_ HB.out GE590.out GE591.out⟩
  · rw [if_neg c3] at H
    have c3b0 : decide (200 < (l1.length : Int)) = false := decide_eq_false c3
    have c3b1 : decide (200 < l1.length) = false := decide_eq_false (by omega)
    clear c3
    obtain ⟨y592, hy592⟩ : ∃ y_ : List (S88), y_ = (([] : List (S88))) := ⟨_, rfl⟩
    replace H : (impl_AppRun.l0 k y592 l1 (l1.length : Int) 0 a0_0 a0_1) = some (r1, r2, r3) := by first | (rw [hy592]; with_reducible exact H) | (have H2_ := (Option.bind_some _ _).symm.trans H; rw [hy592]; with_reducible exact H2_) | (have H2_ := (Option.bind_some _ _).symm.trans H; with_reducible exact H2_) | with_reducible exact H | (rw [hy592]; exact H) | exact H
    have Ny592 := Aside0.mk hy592
    clear hy592
    have H' := Aside0.mk H
    clear H
    go_enter Try.func41, Try.ntmps41
    go_wp2_with (first | ((with_reducible refine gate_dst (N := 2) rfl ?_); refine box_event ?hg (N := 2) ?hd (cs := #[.bool a0_0, .int .i64 a0_1]) (t := 66) ?hr ?_; (case hd => rfl); (case hg => rfl); (case hr => first | (go_simp; done) | (go_simp; rfl)); intro gb590 hg w9 hbox hb; have n0_ := Aside0.mk (below_step (hb_ HB.out) hb); have n1_ := Aside0.mk (hbox); have n2_ := Aside0.mk ((by rw [hg]; exact (below_size (hb_ HB.out)) : w.heap.size ≤ gb590)); have n3_ := Aside0.mk ((by rw [hg]; exact (below_size (hb_ HB.out)) : w.heap.size ≤ gb590)); clear HB; have HB := n0_; have BK590 := n1_; have GW590 := n2_; have GE590 := n3_; clear n0_ n1_ n2_ n3_; clear hb hbox hg) | ((with_reducible refine gate_dst (N := 5) rfl ?_); refine box_event ?hg (N := 5) ?hd (cs := #[.bool false, .int .i64 0]) (t := 66) ?hr ?_; (case hd => rfl); (case hg => rfl); (case hr => first | (go_simp; done) | (go_simp; rfl)); intro gb591 hg w10 hbox hb; have n0_ := Aside0.mk (bb_ BK590.out hb); have n1_ := Aside0.mk (below_step (hb1_ HB.out GE590.out) hb); have n2_ := Aside0.mk (hbox); have n3_ := Aside0.mk ((by rw [hg]; exact (below_size (hb1_ HB.out GE590.out)) : w.heap.size ≤ gb591)); have n4_ := Aside0.mk ((by rw [hg]; exact (below_size (hb1_ HB.out GE590.out)) : w.heap.size ≤ gb591)); have n5_ := Aside0.mk ((bl_ hg BK590.out : gb590 ≠ gb591)); have n6_ := Aside0.mk ((bg_ hg BK590.out : gb591 ≠ gb590)); clear BK590; clear HB; have BK590 := n0_; have HB := n1_; have BK591 := n2_; have GW591 := n3_; have GE591 := n4_; have NB590_591 := n5_; have NB591_590 := n6_; clear n0_ n1_ n2_ n3_ n4_ n5_ n6_; clear hb hbox hg) | ((with_reducible refine gate_dst (N := 17) rfl ?_); refine Kd.R_lit k88 _ 88 ?hg (N := 17) ?hd (xs := ([] : List (S88))) (inner := []) (ok := fun _ => True) (okp := fun _ => True) ?hr ?hp (fun _ hk => hk) trivial (Below.refl _ _) (Nat.le_refl _) (by simp) ?_; (case hd => rfl); (case hg => rfl); (case hr => first | (go_simp; done) | (go_simp; rfl)); (case hp => exact (Reps.none _ _)); intro v593 w11 ho12 hb hg_ hnew_; clear hg_ hnew_; (first | rw [← Ny592.out] at ho12 | (simp only [Int.reduceToNat] at ho12; rw [← Ny592.out] at ho12)); have n0_ := Aside0.mk (Kd.R_lower ho12 (below_size (hb2_ HB.out GE590.out GE591.out))); have n1_ := Aside0.mk (bb_ BK590.out hb); have n2_ := Aside0.mk (bb_ BK591.out hb); have n3_ := Aside0.mk (below_step (hb2_ HB.out GE590.out GE591.out) hb); clear BK590; clear BK591; clear HB; have HO594 := n0_; have BK590 := n1_; have BK591 := n2_; have HB := n3_; clear n0_ n1_ n2_ n3_; clear hb ho12))
    go_loopg [6, 20] k (fun kq v6 v20 w' => ∃ (x6_1 : List (S88)) (x20_1 : Int) (x591000_1 : Bool) (x591001_1 : Int), v20 = .int .i64 x20_1 ∧ Aside0 (impl_AppRun.l0 kq x6_1 l1 (l1.length : Int) x20_1 x591000_1 x591001_1 = some (r1, r2, r3)) ∧ Aside0 (kq ≤ k) ∧ Aside0 (Kd.R k88 88 w' w.heap.size (fun _ => True) v6 x6_1) ∧ Aside0 (w'.heap[gb590]? = some (.cells #[.bool x591000_1, .int .i64 x591001_1] 66 (0, 0))) ∧ Aside0 (w'.heap[gb591]? = some (.cells #[.bool false, .int .i64 0] 66 (0, 0))) ∧ Aside0 (Below w.heap.size w w'))
    case atStart => exact ⟨(y592), (0), (a0_0), (a0_1), (by first | rfl | (simp; done) | (simp [*]; done)), H', ⟨Nat.le_refl _⟩, ⟨by (with_reducible repeat (first | apply Kd.R_alloc | apply Kd.R_drewN | apply Kd.R_drew)); exact HO594.out⟩, ⟨bk_ BK590.out⟩, ⟨bk_ BK591.out⟩, ⟨hb2_ HB.out GE590.out GE591.out⟩⟩
    case round =>
      clear H'
      try clear c1
      try clear p2
      try clear c3
      try clear c3b0
      try clear c3b1
      try clear c4
      obtain ⟨x6_1, x20_1, x591000_1, x591001_1, rfl, HA, HK1, HO_6, BK590, BK591, HB⟩ := hrel
      cases gk with
      | zero => exact absurd HA.out (by simp [impl_AppRun.l0])
      | succ k1 =>
        have H := HA.out
        clear HA
        simp only [impl_AppRun.l0] at H
        by_cases c13 : x20_1 < (l1.length : Int)
        · rw [if_pos c13] at H
          have c13b0 : decide (x20_1 < (l1.length : Int)) = true := decide_eq_true c13
          clear c13
          by_cases c14 : 0 ≤ x20_1
          · rw [if_pos c14] at H
            have c14b0 : decide (0 ≤ x20_1) = true := decide_eq_true c14
            clear c14
            by_cases c15 : x20_1 < (l1.length : Int)
            · rw [if_pos c15] at H
              have c15b0 : decide (x20_1 < (l1.length : Int)) = true := decide_eq_true c15
              clear c15
              replace H := Option.bind_eq_some_iff.mp H
              obtain ⟨⟨t597, t598, t599, t600, t601⟩, A160, H⟩ := H
              replace H : (if x6_1.length < 5864062014805 then ((some (x6_1 ++ [(⟨t599, t600, t601⟩ : S88)] : List (S88))).bind fun y603 => (if t601 = 1 then (impl_AppRun.l0 k1 y603 l1 (l1.length : Int) (wrap64 (x20_1 + 1)) x591000_1 x591001_1) else (impl_AppRun.l0 k1 y603 l1 (l1.length : Int) (wrap64 (x20_1 + 1)) t597 t598))) else (none)) = some (r1, r2, r3) := H
              have A16 := Aside0.mk A160
              clear A160
              by_cases c17 : x6_1.length < 5864062014805
              · rw [if_pos c17] at H
                have LMc17 := Aside0.mk c17
                clear c17
                obtain ⟨y603, hy603⟩ : ∃ y_ : List (S88), y_ = (x6_1 ++ [(⟨t599, t600, t601⟩ : S88)]) := ⟨_, rfl⟩
                replace H : (if t601 = 1 then (impl_AppRun.l0 k1 y603 l1 (l1.length : Int) (wrap64 (x20_1 + 1)) x591000_1 x591001_1) else (impl_AppRun.l0 k1 y603 l1 (l1.length : Int) (wrap64 (x20_1 + 1)) t597 t598)) = some (r1, r2, r3) := by first | (rw [hy603]; with_reducible exact H) | (have H2_ := (Option.bind_some _ _).symm.trans H; rw [hy603]; with_reducible exact H2_) | (have H2_ := (Option.bind_some _ _).symm.trans H; with_reducible exact H2_) | with_reducible exact H | (rw [hy603]; exact H) | exact H
                have Ny603 := Aside0.mk hy603
                clear hy603
                by_cases c18 : t601 = 1
                · rw [if_pos c18] at H
                  have c18b0 : (t601 == 1) = true := beq_iff_eq.mpr c18
                  have c18b1 : (t601 != 1) = false := bne_eq_false_iff_eq.mpr c18
                  clear c18
                  have H' := Aside0.mk H
                  clear H
                  have p595 : 0 ≤ (x20_1 : Int) := of_decide_eq_true (by first | (with_reducible assumption) | assumption)
                  have q595 : x20_1 < (l1.length : Int) := of_decide_eq_true (by first | (with_reducible assumption) | assumption)
                  obtain ⟨ad595, e595, hx595_0, hx595_1, hx595_2⟩ := at_T83 HR1.out x20_1 p595 q595
                  cases e595
                  replace hx595_0 := (HB.out.cell (World.block_lt_of_cell? w _ hx595_0)).trans hx595_0
                  replace hx595_1 := (HB.out.cell (World.block_lt_of_cell? w _ hx595_1)).trans hx595_1
                  replace hx595_2 := (HB.out.cell (World.block_lt_of_cell? w _ hx595_2)).trans hx595_2
                  replace p595 := eq_true p595
                  replace q595 := eq_true q595
                  go_wp2_with (first | ((with_reducible refine gate_dst (N := 8) rfl ?_); refine box_event ?hg (N := 8) ?hd (cs := #[.bool false, .int .i64 0, .int .i64 0]) (t := 83) ?hr ?_; (case hd => rfl); (case hg => rfl); (case hr => first | (go_simp; done) | (go_simp; rfl)); intro gb596 hg w19 hbox hb; have n0_ := Aside0.mk (Kd.R_below (by (with_reducible repeat (first | apply Kd.R_alloc | apply Kd.R_drewN | apply Kd.R_drew)); exact HO_6.out) hb); have n1_ := Aside0.mk (bb_ BK590.out hb); have n2_ := Aside0.mk (bb_ BK591.out hb); have n3_ := Aside0.mk (below_step (hb2_ HB.out GE590.out GE591.out) hb); have n4_ := Aside0.mk (hbox); have n5_ := Aside0.mk ((by rw [hg]; exact (below_size (hb2_ HB.out GE590.out GE591.out)) : w.heap.size ≤ gb596)); have n6_ := Aside0.mk ((by rw [hg]; exact (below_size (hb2_ HB.out GE590.out GE591.out)) : w.heap.size ≤ gb596)); have n7_ := Aside0.mk ((bl_ hg BK590.out : gb590 ≠ gb596)); have n8_ := Aside0.mk ((bg_ hg BK590.out : gb596 ≠ gb590)); have n9_ := Aside0.mk ((bl_ hg BK591.out : gb591 ≠ gb596)); have n10_ := Aside0.mk ((bg_ hg BK591.out : gb596 ≠ gb591)); clear HO_6; clear BK590; clear BK591; clear HB; have HO_6 := n0_; have BK590 := n1_; have BK591 := n2_; have HB := n3_; have BK596 := n4_; have GW596 := n5_; have GE596 := n6_; have NB590_596 := n7_; have NB596_590 := n8_; have NB591_596 := n9_; have NB596_591 := n10_; clear n0_ n1_ n2_ n3_ n4_ n5_ n6_ n7_ n8_ n9_ n10_; clear hb hbox hg; have hnb20 := NB596_590.out; have hnc20 := NB590_596.out; have hnb21 := NB596_591.out; have hnc21 := NB591_596.out; have hcz22_0 := bc_ BK596.out 0 (.bool false) rfl; have hcz22_1 := bc_ BK596.out 1 (.int .i64 0) rfl; have hcz22_2 := bc_ BK596.out 2 (.int .i64 0) rfl; have hfz22_0 := blk_frozen BK596.out 0; have hfz22_1 := blk_frozen BK596.out 1; have hfz22_2 := blk_frozen BK596.out 2; have hnb23 := NB590_591.out; have hnc23 := NB591_590.out; have hcz24_0 := bc_ BK590.out 0 (.bool x591000_1) rfl; have hcz24_1 := bc_ BK590.out 1 (.int .i64 x591001_1) rfl; have hfz24_0 := blk_frozen BK590.out 0; have hfz24_1 := blk_frozen BK590.out 1) | ((with_reducible refine gate_callee (f := 53) rfl ?_); refine goesL_ (some 30) rfl rfl Try.func53 (by kernel_rfl) rfl #[.agg #[.bool x591000_1, .int .i64 x591001_1], .bool ((rd_T83 l1 x20_1).f0), .agg #[.int .i64 ((rd_T83 l1 x20_1).f1.f0), .int .i64 ((rd_T83 l1 x20_1).f1.f1)]] rfl arr_ ?_; (with_reducible refine (impl_AppRead.calls k1 x591000_1 x591001_1 ((rd_T83 l1 x20_1).f0) ((rd_T83 l1 x20_1).f1.f0) ((rd_T83 l1 x20_1).f1.f1) t597 t598 t599 t600 t601 _ A16.out).mono ?_); rintro e w25 ⟨rfl, hb⟩; refine ⟨_, rfl, ?_⟩; have n0_ := Aside0.mk (Kd.R_below (by (with_reducible repeat (first | apply Kd.R_alloc | apply Kd.R_drewN | apply Kd.R_drew)); exact (Kd.R_mono (Kd.R_far (p := ⟨gb596, 2, none⟩) (Kd.R_far (p := ⟨gb596, 1, none⟩) (Kd.R_far (p := ⟨gb596, 0, none⟩) (Kd.R_types HO_6.out BK596.out (by decide)) (fun _ hk => hk.2) (.bool ((rd_T83 l1 x20_1).f0))) (fun _ hk => hk.2) (.int .i64 ((rd_T83 l1 x20_1).f1.f0))) (fun _ hk => hk.2) (.int .i64 ((rd_T83 l1 x20_1).f1.f1))) (fun _ h_ => h_.1))) hb); have n1_ := Aside0.mk (blk_below (g := gb590) (o := .cells #[.bool x591000_1, .int .i64 x591001_1] 66 (0, 0)) (by (with_reducible repeat (first | refine blk_drewN ?_ _ | refine blk_drew ?_ | refine blk_alloc ?_ _)); refine blk_far ?_ NB590_596.out _; (with_reducible repeat (first | refine blk_drewN ?_ _ | refine blk_drew ?_ | refine blk_alloc ?_ _)); refine blk_far ?_ NB590_596.out _; (with_reducible repeat (first | refine blk_drewN ?_ _ | refine blk_drew ?_ | refine blk_alloc ?_ _)); refine blk_far ?_ NB590_596.out _; (with_reducible repeat (first | refine blk_drewN ?_ _ | refine blk_drew ?_ | refine blk_alloc ?_ _)); exact BK590.out) hb); have n2_ := Aside0.mk (blk_below (g := gb591) (o := .cells #[.bool false, .int .i64 0] 66 (0, 0)) (by (with_reducible repeat (first | refine blk_drewN ?_ _ | refine blk_drew ?_ | refine blk_alloc ?_ _)); refine blk_far ?_ NB591_596.out _; (with_reducible repeat (first | refine blk_drewN ?_ _ | refine blk_drew ?_ | refine blk_alloc ?_ _)); refine blk_far ?_ NB591_596.out _; (with_reducible repeat (first | refine blk_drewN ?_ _ | refine blk_drew ?_ | refine blk_alloc ?_ _)); refine blk_far ?_ NB591_596.out _; (with_reducible repeat (first | refine blk_drewN ?_ _ | refine blk_drew ?_ | refine blk_alloc ?_ _)); exact BK591.out) hb); have n3_ := Aside0.mk (blk_below (g := gb596) (o := .cells #[.bool ((rd_T83 l1 x20_1).f0), .int .i64 ((rd_T83 l1 x20_1).f1.f0), .int .i64 ((rd_T83 l1 x20_1).f1.f1)] 83 (0, 0)) (by (with_reducible repeat (first | refine blk_drewN ?_ _ | refine blk_drew ?_ | refine blk_alloc ?_ _)); refine blk_put (cs := #[.bool ((rd_T83 l1 x20_1).f0), .int .i64 ((rd_T83 l1 x20_1).f1.f0), .int .i64 0]) ?_ 2 _ rfl; (with_reducible repeat (first | refine blk_drewN ?_ _ | refine blk_drew ?_ | refine blk_alloc ?_ _)); refine blk_put (cs := #[.bool ((rd_T83 l1 x20_1).f0), .int .i64 0, .int .i64 0]) ?_ 1 _ rfl; (with_reducible repeat (first | refine blk_drewN ?_ _ | refine blk_drew ?_ | refine blk_alloc ?_ _)); refine blk_put (cs := #[.bool false, .int .i64 0, .int .i64 0]) ?_ 0 _ rfl; (with_reducible repeat (first | refine blk_drewN ?_ _ | refine blk_drew ?_ | refine blk_alloc ?_ _)); exact BK596.out) hb); have n4_ := Aside0.mk (below_step (hb3_ HB.out GE590.out GE591.out GE596.out) hb); clear HO_6; clear BK590; clear BK591; clear BK596; clear HB; have HO_6 := n0_; have BK590 := n1_; have BK591 := n2_; have BK596 := n3_; have HB := n4_; clear n0_ n1_ n2_ n3_ n4_; (try clear hb); (try clear hb2); (try clear hk); (try clear hi)) | ((with_reducible refine gate_dst (N := 9) rfl ?_); refine box_event ?hg (N := 9) ?hd (cs := #[.bool false, .int .i64 0]) (t := 66) ?hr ?_; (case hd => rfl); (case hg => rfl); (case hr => first | (go_simp; done) | (go_simp; rfl)); intro gb602 hg w26 hbox hb; have n0_ := Aside0.mk (Kd.R_below (by (with_reducible repeat (first | apply Kd.R_alloc | apply Kd.R_drewN | apply Kd.R_drew)); exact HO_6.out) hb); have n1_ := Aside0.mk (bb_ BK590.out hb); have n2_ := Aside0.mk (bb_ BK591.out hb); have n3_ := Aside0.mk (bb_ BK596.out hb); have n4_ := Aside0.mk (below_step (hb3_ HB.out GE590.out GE591.out GE596.out) hb); have n5_ := Aside0.mk (hbox); have n6_ := Aside0.mk ((by rw [hg]; exact (below_size (hb3_ HB.out GE590.out GE591.out GE596.out)) : w.heap.size ≤ gb602)); have n7_ := Aside0.mk ((by rw [hg]; exact (below_size (hb3_ HB.out GE590.out GE591.out GE596.out)) : w.heap.size ≤ gb602)); have n8_ := Aside0.mk ((bl_ hg BK590.out : gb590 ≠ gb602)); have n9_ := Aside0.mk ((bg_ hg BK590.out : gb602 ≠ gb590)); have n10_ := Aside0.mk ((bl_ hg BK591.out : gb591 ≠ gb602)); have n11_ := Aside0.mk ((bg_ hg BK591.out : gb602 ≠ gb591)); have n12_ := Aside0.mk ((bl_ hg BK596.out : gb596 ≠ gb602)); have n13_ := Aside0.mk ((bg_ hg BK596.out : gb602 ≠ gb596)); clear HO_6; clear BK590; clear BK591; clear BK596; clear HB; have HO_6 := n0_; have BK590 := n1_; have BK591 := n2_; have BK596 := n3_; have HB := n4_; have BK602 := n5_; have GW602 := n6_; have GE602 := n7_; have NB590_602 := n8_; have NB602_590 := n9_; have NB591_602 := n10_; have NB602_591 := n11_; have NB596_602 := n12_; have NB602_596 := n13_; clear n0_ n1_ n2_ n3_ n4_ n5_ n6_ n7_ n8_ n9_ n10_ n11_ n12_ n13_; clear hb hbox hg; have hnb27 := NB602_590.out; have hnc27 := NB590_602.out; have hnb28 := NB602_591.out; have hnc28 := NB591_602.out; have hnb29 := NB602_596.out; have hnc29 := NB596_602.out; have hcz30_0 := bc_ BK602.out 0 (.bool false) rfl; have hcz30_1 := bc_ BK602.out 1 (.int .i64 0) rfl; have hfz30_0 := blk_frozen BK602.out 0; have hfz30_1 := blk_frozen BK602.out 1) | ((with_reducible refine gate_builtin (b := .append) (xs := #[.tmp 35, .tmp 40]) rfl ?_); at_builtin; refine Kd.R_append k88 (w0 := w) w.heap.size rfl (.tmp 35) (.tmp 40) 65 88 (.agg #[(.int .i64 0), (.bool false), (.int .i64 0)]) 24 rfl Try.underlying65 info88 rfl (by decide) (by omega) u6 x6_1 (⟨t599, t600, t601⟩ : S88) [.int .i64 t599, .bool t600, .int .i64 t601] (fun _ => True) (fun _ => False) rfl (by first | (go_simp; done) | (go_simp; rfl)) ?aP (fun _ hk => hk.elim) ?aF ?aO ?aB ?aS ?aL ?_; (case aP => exact k88_mkM _ _ _ (⟨t599, t600, t601⟩ : S88)); (case aB => exact (hb4_ HB.out GE590.out GE591.out GE596.out GE602.out)); (case aF => exact (fun _ _ => trivial)); (case aO => exact (by (with_reducible repeat (first | apply Kd.R_alloc | apply Kd.R_drewN | apply Kd.R_drew)); exact Kd.R_mono (Kd.R_far (p := ⟨gb602, 1, none⟩) (Kd.R_far (p := ⟨gb602, 0, none⟩) (Kd.R_types HO_6.out BK602.out (by decide)) (fun _ hk => hk.2) (.bool t597)) (fun _ hk => hk.2) (.int .i64 t598)) (fun _ hk => trivial))); (case aS => exact (below_size (hb4_ HB.out GE590.out GE591.out GE596.out GE602.out))); (case aL => have := LMc17.out; omega); intro v604 w31 ho hb hg hat; rw [← Ny603.out] at ho; have n0_ := Aside0.mk (blk_grown (g := gb590) (o := .cells #[.bool x591000_1, .int .i64 x591001_1] 66 (0, 0)) (by (with_reducible repeat (first | refine blk_drewN ?_ _ | refine blk_drew ?_ | refine blk_alloc ?_ _)); refine blk_far ?_ NB590_602.out _; (with_reducible repeat (first | refine blk_drewN ?_ _ | refine blk_drew ?_ | refine blk_alloc ?_ _)); refine blk_far ?_ NB590_602.out _; (with_reducible repeat (first | refine blk_drewN ?_ _ | refine blk_drew ?_ | refine blk_alloc ?_ _)); exact BK590.out) hg (Kd.R_ne HO_6.out BK590.out (by decide))); have n1_ := Aside0.mk (blk_grown (g := gb591) (o := .cells #[.bool false, .int .i64 0] 66 (0, 0)) (by (with_reducible repeat (first | refine blk_drewN ?_ _ | refine blk_drew ?_ | refine blk_alloc ?_ _)); refine blk_far ?_ NB591_602.out _; (with_reducible repeat (first | refine blk_drewN ?_ _ | refine blk_drew ?_ | refine blk_alloc ?_ _)); refine blk_far ?_ NB591_602.out _; (with_reducible repeat (first | refine blk_drewN ?_ _ | refine blk_drew ?_ | refine blk_alloc ?_ _)); exact BK591.out) hg (Kd.R_ne HO_6.out BK591.out (by decide))); have n2_ := Aside0.mk (blk_grown (g := gb596) (o := .cells #[.bool ((rd_T83 l1 x20_1).f0), .int .i64 ((rd_T83 l1 x20_1).f1.f0), .int .i64 ((rd_T83 l1 x20_1).f1.f1)] 83 (0, 0)) (by (with_reducible repeat (first | refine blk_drewN ?_ _ | refine blk_drew ?_ | refine blk_alloc ?_ _)); refine blk_far ?_ NB596_602.out _; (with_reducible repeat (first | refine blk_drewN ?_ _ | refine blk_drew ?_ | refine blk_alloc ?_ _)); refine blk_far ?_ NB596_602.out _; (with_reducible repeat (first | refine blk_drewN ?_ _ | refine blk_drew ?_ | refine blk_alloc ?_ _)); exact BK596.out) hg (Kd.R_ne HO_6.out BK596.out (by decide))); have n3_ := Aside0.mk (blk_grown (g := gb602) (o := .cells #[.bool t597, .int .i64 t598] 66 (0, 0)) (by (with_reducible repeat (first | refine blk_drewN ?_ _ | refine blk_drew ?_ | refine blk_alloc ?_ _)); refine blk_put (cs := #[.bool t597, .int .i64 0]) ?_ 1 _ rfl; (with_reducible repeat (first | refine blk_drewN ?_ _ | refine blk_drew ?_ | refine blk_alloc ?_ _)); refine blk_put (cs := #[.bool false, .int .i64 0]) ?_ 0 _ rfl; (with_reducible repeat (first | refine blk_drewN ?_ _ | refine blk_drew ?_ | refine blk_alloc ?_ _)); exact BK602.out) hg (Kd.R_ne HO_6.out BK602.out (by decide))); have n4_ := Aside0.mk (hb); have n5_ := Aside0.mk (ho); clear BK590; clear BK591; clear BK596; clear BK602; clear HB; clear HO_6; have BK590 := n0_; have BK591 := n1_; have BK596 := n2_; have BK602 := n3_; have HB := n4_; have HO605 := n5_; clear n0_ n1_ n2_ n3_ n4_ n5_; clear ho hb hg hat))
                  go_roundg k1
                  case measure => have := HK1.out; omega
                  case rel => exact ⟨(y603), (wrap64 (x20_1 + 1)), (x591000_1), (x591001_1), (by first | rfl | (simp; done) | (simp [*]; done)), H', ⟨by have := HK1.out; omega⟩, ⟨by (with_reducible repeat (first | apply Kd.R_alloc | apply Kd.R_drewN | apply Kd.R_drew)); exact HO605.out⟩, ⟨bk_ BK590.out⟩, ⟨bk_ BK591.out⟩, ⟨hb4_ HB.out GE590.out GE591.out GE596.out GE602.out⟩⟩
                · rw [if_neg c18] at H
                  have c18b0 : (t601 == 1) = false := beq_eq_false_iff_ne.mpr c18
                  have c18b1 : (t601 != 1) = true := bne_iff_ne.mpr c18
                  have H' := Aside0.mk H
                  clear H
                  have p595 : 0 ≤ (x20_1 : Int) := of_decide_eq_true (by first | (with_reducible assumption) | assumption)
                  have q595 : x20_1 < (l1.length : Int) := of_decide_eq_true (by first | (with_reducible assumption) | assumption)
                  obtain ⟨ad595, e595, hx595_0, hx595_1, hx595_2⟩ := at_T83 HR1.out x20_1 p595 q595
                  cases e595
                  replace hx595_0 := (HB.out.cell (World.block_lt_of_cell? w _ hx595_0)).trans hx595_0
                  replace hx595_1 := (HB.out.cell (World.block_lt_of_cell? w _ hx595_1)).trans hx595_1
                  replace hx595_2 := (HB.out.cell (World.block_lt_of_cell? w _ hx595_2)).trans hx595_2
                  replace p595 := eq_true p595
                  replace q595 := eq_true q595
                  go_wp2_with (first | ((with_reducible refine gate_dst (N := 8) rfl ?_); refine box_event ?hg (N := 8) ?hd (cs := #[.bool false, .int .i64 0, .int .i64 0]) (t := 83) ?hr ?_; (case hd => rfl); (case hg => rfl); (case hr => first | (go_simp; done) | (go_simp; rfl)); intro gb596 hg w32 hbox hb; have n0_ := Aside0.mk (Kd.R_below (by (with_reducible repeat (first | apply Kd.R_alloc | apply Kd.R_drewN | apply Kd.R_drew)); exact HO_6.out) hb); have n1_ := Aside0.mk (bb_ BK590.out hb); have n2_ := Aside0.mk (bb_ BK591.out hb); have n3_ := Aside0.mk (below_step (hb2_ HB.out GE590.out GE591.out) hb); have n4_ := Aside0.mk (hbox); have n5_ := Aside0.mk ((by rw [hg]; exact (below_size (hb2_ HB.out GE590.out GE591.out)) : w.heap.size ≤ gb596)); have n6_ := Aside0.mk ((by rw [hg]; exact (below_size (hb2_ HB.out GE590.out GE591.out)) : w.heap.size ≤ gb596)); have n7_ := Aside0.mk ((bl_ hg BK590.out : gb590 ≠ gb596)); have n8_ := Aside0.mk ((bg_ hg BK590.out : gb596 ≠ gb590)); have n9_ := Aside0.mk ((bl_ hg BK591.out : gb591 ≠ gb596)); have n10_ := Aside0.mk ((bg_ hg BK591.out : gb596 ≠ gb591)); clear HO_6; clear BK590; clear BK591; clear HB; have HO_6 := n0_; have BK590 := n1_; have BK591 := n2_; have HB := n3_; have BK596 := n4_; have GW596 := n5_; have GE596 := n6_; have NB590_596 := n7_; have NB596_590 := n8_; have NB591_596 := n9_; have NB596_591 := n10_; clear n0_ n1_ n2_ n3_ n4_ n5_ n6_ n7_ n8_ n9_ n10_; clear hb hbox hg; have hnb33 := NB596_590.out; have hnc33 := NB590_596.out; have hnb34 := NB596_591.out; have hnc34 := NB591_596.out; have hcz35_0 := bc_ BK596.out 0 (.bool false) rfl; have hcz35_1 := bc_ BK596.out 1 (.int .i64 0) rfl; have hcz35_2 := bc_ BK596.out 2 (.int .i64 0) rfl; have hfz35_0 := blk_frozen BK596.out 0; have hfz35_1 := blk_frozen BK596.out 1; have hfz35_2 := blk_frozen BK596.out 2; have hnb36 := NB590_591.out; have hnc36 := NB591_590.out; have hcz37_0 := bc_ BK590.out 0 (.bool x591000_1) rfl; have hcz37_1 := bc_ BK590.out 1 (.int .i64 x591001_1) rfl; have hfz37_0 := blk_frozen BK590.out 0; have hfz37_1 := blk_frozen BK590.out 1) | ((with_reducible refine gate_callee (f := 53) rfl ?_); refine goesL_ (some 30) rfl rfl Try.func53 (by kernel_rfl) rfl #[.agg #[.bool x591000_1, .int .i64 x591001_1], .bool ((rd_T83 l1 x20_1).f0), .agg #[.int .i64 ((rd_T83 l1 x20_1).f1.f0), .int .i64 ((rd_T83 l1 x20_1).f1.f1)]] rfl arr_ ?_; (with_reducible refine (impl_AppRead.calls k1 x591000_1 x591001_1 ((rd_T83 l1 x20_1).f0) ((rd_T83 l1 x20_1).f1.f0) ((rd_T83 l1 x20_1).f1.f1) t597 t598 t599 t600 t601 _ A16.out).mono ?_); rintro e w38 ⟨rfl, hb⟩; refine ⟨_, rfl, ?_⟩; have n0_ := Aside0.mk (Kd.R_below (by (with_reducible repeat (first | apply Kd.R_alloc | apply Kd.R_drewN | apply Kd.R_drew)); exact (Kd.R_mono (Kd.R_far (p := ⟨gb596, 2, none⟩) (Kd.R_far (p := ⟨gb596, 1, none⟩) (Kd.R_far (p := ⟨gb596, 0, none⟩) (Kd.R_types HO_6.out BK596.out (by decide)) (fun _ hk => hk.2) (.bool ((rd_T83 l1 x20_1).f0))) (fun _ hk => hk.2) (.int .i64 ((rd_T83 l1 x20_1).f1.f0))) (fun _ hk => hk.2) (.int .i64 ((rd_T83 l1 x20_1).f1.f1))) (fun _ h_ => h_.1))) hb); have n1_ := Aside0.mk (blk_below (g := gb590) (o := .cells #[.bool x591000_1, .int .i64 x591001_1] 66 (0, 0)) (by (with_reducible repeat (first | refine blk_drewN ?_ _ | refine blk_drew ?_ | refine blk_alloc ?_ _)); refine blk_far ?_ NB590_596.out _; (with_reducible repeat (first | refine blk_drewN ?_ _ | refine blk_drew ?_ | refine blk_alloc ?_ _)); refine blk_far ?_ NB590_596.out _; (with_reducible repeat (first | refine blk_drewN ?_ _ | refine blk_drew ?_ | refine blk_alloc ?_ _)); refine blk_far ?_ NB590_596.out _; (with_reducible repeat (first | refine blk_drewN ?_ _ | refine blk_drew ?_ | refine blk_alloc ?_ _)); exact BK590.out) hb); have n2_ := Aside0.mk (blk_below (g := gb591) (o := .cells #[.bool false, .int .i64 0] 66 (0, 0)) (by (with_reducible repeat (first | refine blk_drewN ?_ _ | refine blk_drew ?_ | refine blk_alloc ?_ _)); refine blk_far ?_ NB591_596.out _; (with_reducible repeat (first | refine blk_drewN ?_ _ | refine blk_drew ?_ | refine blk_alloc ?_ _)); refine blk_far ?_ NB591_596.out _; (with_reducible repeat (first | refine blk_drewN ?_ _ | refine blk_drew ?_ | refine blk_alloc ?_ _)); refine blk_far ?_ NB591_596.out _; (with_reducible repeat (first | refine blk_drewN ?_ _ | refine blk_drew ?_ | refine blk_alloc ?_ _)); exact BK591.out) hb); have n3_ := Aside0.mk (blk_below (g := gb596) (o := .cells #[.bool ((rd_T83 l1 x20_1).f0), .int .i64 ((rd_T83 l1 x20_1).f1.f0), .int .i64 ((rd_T83 l1 x20_1).f1.f1)] 83 (0, 0)) (by (with_reducible repeat (first | refine blk_drewN ?_ _ | refine blk_drew ?_ | refine blk_alloc ?_ _)); refine blk_put (cs := #[.bool ((rd_T83 l1 x20_1).f0), .int .i64 ((rd_T83 l1 x20_1).f1.f0), .int .i64 0]) ?_ 2 _ rfl; (with_reducible repeat (first | refine blk_drewN ?_ _ | refine blk_drew ?_ | refine blk_alloc ?_ _)); refine blk_put (cs := #[.bool ((rd_T83 l1 x20_1).f0), .int .i64 0, .int .i64 0]) ?_ 1 _ rfl; (with_reducible repeat (first | refine blk_drewN ?_ _ | refine blk_drew ?_ | refine blk_alloc ?_ _)); refine blk_put (cs := #[.bool false, .int .i64 0, .int .i64 0]) ?_ 0 _ rfl; (with_reducible repeat (first | refine blk_drewN ?_ _ | refine blk_drew ?_ | refine blk_alloc ?_ _)); exact BK596.out) hb); have n4_ := Aside0.mk (below_step (hb3_ HB.out GE590.out GE591.out GE596.out) hb); clear HO_6; clear BK590; clear BK591; clear BK596; clear HB; have HO_6 := n0_; have BK590 := n1_; have BK591 := n2_; have BK596 := n3_; have HB := n4_; clear n0_ n1_ n2_ n3_ n4_; (try clear hb); (try clear hb2); (try clear hk); (try clear hi)) | ((with_reducible refine gate_dst (N := 9) rfl ?_); refine box_event ?hg (N := 9) ?hd (cs := #[.bool false, .int .i64 0]) (t := 66) ?hr ?_; (case hd => rfl); (case hg => rfl); (case hr => first | (go_simp; done) | (go_simp; rfl)); intro gb602 hg w39 hbox hb; have n0_ := Aside0.mk (Kd.R_below (by (with_reducible repeat (first | apply Kd.R_alloc | apply Kd.R_drewN | apply Kd.R_drew)); exact HO_6.out) hb); have n1_ := Aside0.mk (bb_ BK590.out hb); have n2_ := Aside0.mk (bb_ BK591.out hb); have n3_ := Aside0.mk (bb_ BK596.out hb); have n4_ := Aside0.mk (below_step (hb3_ HB.out GE590.out GE591.out GE596.out) hb); have n5_ := Aside0.mk (hbox); have n6_ := Aside0.mk ((by rw [hg]; exact (below_size (hb3_ HB.out GE590.out GE591.out GE596.out)) : w.heap.size ≤ gb602)); have n7_ := Aside0.mk ((by rw [hg]; exact (below_size (hb3_ HB.out GE590.out GE591.out GE596.out)) : w.heap.size ≤ gb602)); have n8_ := Aside0.mk ((bl_ hg BK590.out : gb590 ≠ gb602)); have n9_ := Aside0.mk ((bg_ hg BK590.out : gb602 ≠ gb590)); have n10_ := Aside0.mk ((bl_ hg BK591.out : gb591 ≠ gb602)); have n11_ := Aside0.mk ((bg_ hg BK591.out : gb602 ≠ gb591)); have n12_ := Aside0.mk ((bl_ hg BK596.out : gb596 ≠ gb602)); have n13_ := Aside0.mk ((bg_ hg BK596.out : gb602 ≠ gb596)); clear HO_6; clear BK590; clear BK591; clear BK596; clear HB; have HO_6 := n0_; have BK590 := n1_; have BK591 := n2_; have BK596 := n3_; have HB := n4_; have BK602 := n5_; have GW602 := n6_; have GE602 := n7_; have NB590_602 := n8_; have NB602_590 := n9_; have NB591_602 := n10_; have NB602_591 := n11_; have NB596_602 := n12_; have NB602_596 := n13_; clear n0_ n1_ n2_ n3_ n4_ n5_ n6_ n7_ n8_ n9_ n10_ n11_ n12_ n13_; clear hb hbox hg; have hnb40 := NB602_590.out; have hnc40 := NB590_602.out; have hnb41 := NB602_591.out; have hnc41 := NB591_602.out; have hnb42 := NB602_596.out; have hnc42 := NB596_602.out; have hcz43_0 := bc_ BK602.out 0 (.bool false) rfl; have hcz43_1 := bc_ BK602.out 1 (.int .i64 0) rfl; have hfz43_0 := blk_frozen BK602.out 0; have hfz43_1 := blk_frozen BK602.out 1) | ((with_reducible refine gate_builtin (b := .append) (xs := #[.tmp 35, .tmp 40]) rfl ?_); at_builtin; refine Kd.R_append k88 (w0 := w) w.heap.size rfl (.tmp 35) (.tmp 40) 65 88 (.agg #[(.int .i64 0), (.bool false), (.int .i64 0)]) 24 rfl Try.underlying65 info88 rfl (by decide) (by omega) u6 x6_1 (⟨t599, t600, t601⟩ : S88) [.int .i64 t599, .bool t600, .int .i64 t601] (fun _ => True) (fun _ => False) rfl (by first | (go_simp; done) | (go_simp; rfl)) ?aP (fun _ hk => hk.elim) ?aF ?aO ?aB ?aS ?aL ?_; (case aP => exact k88_mkM _ _ _ (⟨t599, t600, t601⟩ : S88)); (case aB => exact (hb4_ HB.out GE590.out GE591.out GE596.out GE602.out)); (case aF => exact (fun _ _ => trivial)); (case aO => exact (by (with_reducible repeat (first | apply Kd.R_alloc | apply Kd.R_drewN | apply Kd.R_drew)); exact Kd.R_mono (Kd.R_far (p := ⟨gb602, 1, none⟩) (Kd.R_far (p := ⟨gb602, 0, none⟩) (Kd.R_types HO_6.out BK602.out (by decide)) (fun _ hk => hk.2) (.bool t597)) (fun _ hk => hk.2) (.int .i64 t598)) (fun _ hk => trivial))); (case aS => exact (below_size (hb4_ HB.out GE590.out GE591.out GE596.out GE602.out))); (case aL => have := LMc17.out; omega); intro v604 w44 ho hb hg hat; rw [← Ny603.out] at ho; have n0_ := Aside0.mk (blk_grown (g := gb590) (o := .cells #[.bool x591000_1, .int .i64 x591001_1] 66 (0, 0)) (by (with_reducible repeat (first | refine blk_drewN ?_ _ | refine blk_drew ?_ | refine blk_alloc ?_ _)); refine blk_far ?_ NB590_602.out _; (with_reducible repeat (first | refine blk_drewN ?_ _ | refine blk_drew ?_ | refine blk_alloc ?_ _)); refine blk_far ?_ NB590_602.out _; (with_reducible repeat (first | refine blk_drewN ?_ _ | refine blk_drew ?_ | refine blk_alloc ?_ _)); exact BK590.out) hg (Kd.R_ne HO_6.out BK590.out (by decide))); have n1_ := Aside0.mk (blk_grown (g := gb591) (o := .cells #[.bool false, .int .i64 0] 66 (0, 0)) (by (with_reducible repeat (first | refine blk_drewN ?_ _ | refine blk_drew ?_ | refine blk_alloc ?_ _)); refine blk_far ?_ NB591_602.out _; (with_reducible repeat (first | refine blk_drewN ?_ _ | refine blk_drew ?_ | refine blk_alloc ?_ _)); refine blk_far ?_ NB591_602.out _; (with_reducible repeat (first | refine blk_drewN ?_ _ | refine blk_drew ?_ | refine blk_alloc ?_ _)); exact BK591.out) hg (Kd.R_ne HO_6.out BK591.out (by decide))); have n2_ := Aside0.mk (blk_grown (g := gb596) (o := .cells #[.bool ((rd_T83 l1 x20_1).f0), .int .i64 ((rd_T83 l1 x20_1).f1.f0), .int .i64 ((rd_T83 l1 x20_1).f1.f1)] 83 (0, 0)) (by (with_reducible repeat (first | refine blk_drewN ?_ _ | refine blk_drew ?_ | refine blk_alloc ?_ _)); refine blk_far ?_ NB596_602.out _; (with_reducible repeat (first | refine blk_drewN ?_ _ | refine blk_drew ?_ | refine blk_alloc ?_ _)); refine blk_far ?_ NB596_602.out _; (with_reducible repeat (first | refine blk_drewN ?_ _ | refine blk_drew ?_ | refine blk_alloc ?_ _)); exact BK596.out) hg (Kd.R_ne HO_6.out BK596.out (by decide))); have n3_ := Aside0.mk (blk_grown (g := gb602) (o := .cells #[.bool t597, .int .i64 t598] 66 (0, 0)) (by (with_reducible repeat (first | refine blk_drewN ?_ _ | refine blk_drew ?_ | refine blk_alloc ?_ _)); refine blk_put (cs := #[.bool t597, .int .i64 0]) ?_ 1 _ rfl; (with_reducible repeat (first | refine blk_drewN ?_ _ | refine blk_drew ?_ | refine blk_alloc ?_ _)); refine blk_put (cs := #[.bool false, .int .i64 0]) ?_ 0 _ rfl; (with_reducible repeat (first | refine blk_drewN ?_ _ | refine blk_drew ?_ | refine blk_alloc ?_ _)); exact BK602.out) hg (Kd.R_ne HO_6.out BK602.out (by decide))); have n4_ := Aside0.mk (hb); have n5_ := Aside0.mk (ho); clear BK590; clear BK591; clear BK596; clear BK602; clear HB; clear HO_6; have BK590 := n0_; have BK591 := n1_; have BK596 := n2_; have BK602 := n3_; have HB := n4_; have HO605 := n5_; clear n0_ n1_ n2_ n3_ n4_ n5_; clear ho hb hg hat; have hcz45_0 := bc_ BK602.out 0 (.bool t597) rfl; have hcz45_1 := bc_ BK602.out 1 (.int .i64 t598) rfl; have hfz45_0 := blk_frozen BK602.out 0; have hfz45_1 := blk_frozen BK602.out 1; have hcz46_0 := bc_ BK590.out 0 (.bool x591000_1) rfl; have hcz46_1 := bc_ BK590.out 1 (.int .i64 x591001_1) rfl; have hfz46_0 := blk_frozen BK590.out 0; have hfz46_1 := blk_frozen BK590.out 1))
                  go_roundg k1
                  case measure => have := HK1.out; omega
                  case rel => exact ⟨(y603), (wrap64 (x20_1 + 1)), (t597), (t598), (by first | rfl | (simp; done) | (simp [*]; done)), H', ⟨by have := HK1.out; omega⟩, ⟨by (with_reducible repeat (first | apply Kd.R_alloc | apply Kd.R_drewN | apply Kd.R_drew)); exact Kd.R_mono (Kd.R_far (p := ⟨gb590, 1, none⟩) (Kd.R_far (p := ⟨gb590, 0, none⟩) (Kd.R_types HO605.out BK590.out (by decide)) (fun _ hk => hk.2) (.bool t597)) (fun _ hk => hk.2) (.int .i64 t598)) (fun _ hk => trivial)⟩, ⟨by (with_reducible repeat (first | refine blk_drewN ?_ _ | refine blk_drew ?_ | refine blk_alloc ?_ _)); refine blk_put (cs := #[.bool t597, .int .i64 x591001_1]) ?_ 1 _ rfl; (with_reducible repeat (first | refine blk_drewN ?_ _ | refine blk_drew ?_ | refine blk_alloc ?_ _)); refine blk_put (cs := #[.bool x591000_1, .int .i64 x591001_1]) ?_ 0 _ rfl; (with_reducible repeat (first | refine blk_drewN ?_ _ | refine blk_drew ?_ | refine blk_alloc ?_ _)); exact BK590.out⟩, ⟨by (with_reducible repeat (first | refine blk_drewN ?_ _ | refine blk_drew ?_ | refine blk_alloc ?_ _)); refine blk_far ?_ NB591_590.out _; (with_reducible repeat (first | refine blk_drewN ?_ _ | refine blk_drew ?_ | refine blk_alloc ?_ _)); refine blk_far ?_ NB591_590.out _; (with_reducible repeat (first | refine blk_drewN ?_ _ | refine blk_drew ?_ | refine blk_alloc ?_ _)); exact BK591.out⟩, ⟨hb4_ HB.out GE590.out GE591.out GE596.out GE602.out⟩⟩
              · rw [if_neg c17] at H
                exact absurd H (by simp)
            · rw [if_neg c15] at H
              exact absurd H (by simp)
          · rw [if_neg c14] at H
            exact absurd H (by simp)
        · rw [if_neg c13] at H
          have c13b0 : decide (x20_1 < (l1.length : Int)) = false := decide_eq_false c13
          clear c13
          simp only [Option.some.injEq, Prod.mk.injEq] at H
          obtain ⟨rfl, rfl, rfl⟩ := H
          try go_wp2
          have n0_ := Aside0.mk (Kd.R_drew HO_6.out)
          have n1_ := Aside0.mk (blk_drew BK590.out)
          have n2_ := Aside0.mk (blk_drew BK591.out)
          have n3_ := Aside0.mk (below_drew1 HB.out)
          clear HO_6
          clear BK590
          clear BK591
          clear HB
          have HO_6 := n0_
          have BK590 := n1_
          have BK591 := n2_
          have HB := n3_
          clear n0_ n1_ n2_ n3_
          refine start_ (n := 4) (S := fun w' => w'.cell? ⟨gb590, 0, none⟩ = some (.bool x591000_1) ∧ w'.cell? ⟨gb590, 1, none⟩ = some (.int .i64 x591001_1)) (ds := []) #[false, false, false, false] (by kernel_rfl) rfl rfl ⟨(blk_cell BK590.out 0).trans rfl, (blk_cell BK590.out 1).trans rfl⟩ (fun hHeld => ?_)
          generalize wr.drew = w47 at HO_6 BK590 BK591 HB hHeld ⊢
          refine pure_ (i := 0) (N := some 46) (v := ?_) (a' := ?_) #[true, false, false, false] rfl rfl (by kernel_rfl) (fun _ _ _ h => h) (Or.inl ⟨by rfl, ?_⟩) ?_ ?_
          rotate_left
          · intro w'
            go_simp
            with_reducible rfl
          rotate_left
          · simp only [Act.put, List.setIfInBounds_toArray, List.set_cons_zero, List.set_cons_succ, i64_w, i32_w]
            rfl
          refine pure_ (i := 2) (N := some 4) (v := ?_) (a' := ?_) #[true, false, true, false] rfl rfl (by kernel_rfl) (fun _ _ _ h => h) (Or.inl ⟨by rfl, ?_⟩) ?_ ?_
          rotate_left
          · intro w'
            go_simp
            with_reducible rfl
          rotate_left
          · simp only [Act.put, List.setIfInBounds_toArray, List.set_cons_zero, List.set_cons_succ, i64_w, i32_w]
            rfl
          refine take_ (i := 1) (N := some 47) (v := ?_) (a' := ?_) #[true, true, true, false] rfl rfl (by kernel_rfl) (fun _ _ _ h => h) (Or.inl ⟨by rfl, ?_⟩) hHeld ?_ ?_
          rotate_left
          · rintro w' ⟨s0, s1⟩
            go_simp
            with_reducible rfl
          rotate_left
          · simp only [Act.put, List.setIfInBounds_toArray, List.set_cons_zero, List.set_cons_succ, i64_w, i32_w]
            rfl
          refine one_ (i := 3) (N := none) #[true, true, true, true] rfl rfl (by kernel_rfl) (by decide) (fun K hK => ?_)
          have hs48 : w47.cell? ⟨gb591, 0, none⟩ = some (.bool false) := (blk_cell BK591.out 0).trans rfl
          have hfs48 := blk_frozen BK591.out 0
          have hns48_0 := NB590_591.out
          have hms48_0 := NB591_590.out
          have hs49 : w47.cell? ⟨gb591, 1, none⟩ = some (.int .i64 0) := (blk_cell BK591.out 1).trans rfl
          have hfs49 := blk_frozen BK591.out 1
          have hns49_0 := NB590_591.out
          have hms49_0 := NB591_590.out
          refine skip_ (w1 := ?_) (by rfl) rfl ?_ ?_
          rotate_left
          · go_simp
            rfl
          refine hK.out _ _ ⟨((cell_far (p := ⟨gb591, _, none⟩) NB590_591.out _).trans (((cell_far (p := ⟨gb591, _, none⟩) NB590_591.out _).trans (hHeld.1)))), ((cell_far (p := ⟨gb591, _, none⟩) NB590_591.out _).trans (((cell_far (p := ⟨gb591, _, none⟩) NB590_591.out _).trans (hHeld.2))))⟩ (fun hHeld => ?_)
          clear hK K
          refine done_ (by kernel_rfl) ?_
          try go_wp2
          refine bodyPost_ret (results_tc rfl _ _ gb591 66 #[.bool x591000_1, .int .i64 x591001_1] (0, 0) _ rfl (by (with_reducible repeat (first | refine blk_drewN ?_ _ | refine blk_drew ?_ | refine blk_alloc ?_ _)); refine blk_put (cs := #[.bool x591000_1, .int .i64 0]) ?_ 1 _ rfl; (with_reducible repeat (first | refine blk_drewN ?_ _ | refine blk_drew ?_ | refine blk_alloc ?_ _)); refine blk_put (cs := #[.bool false, .int .i64 0]) ?_ 0 _ rfl; (with_reducible repeat (first | refine blk_drewN ?_ _ | refine blk_drew ?_ | refine blk_alloc ?_ _)); exact BK591.out) Try.underlying66 rfl (by kernel_rfl)) rfl ?_
          exact ⟨_, er_, by (with_reducible repeat (first | apply Kd.R_alloc | apply Kd.R_drewN | apply Kd.R_drew)); exact Kd.R_mono (Kd.R_far (p := ⟨gb591, 1, none⟩) (Kd.R_far (p := ⟨gb591, 0, none⟩) (Kd.R_types HO_6.out BK591.out (by decide)) (fun _ hk => hk.2) (.bool x591000_1)) (fun _ hk => hk.2) (.int .i64 x591001_1)) (fun _ hk => trivial), hb2_ HB.out GE590.out GE591.out⟩
def IsS146 (w0 W : World) (g : Nat) (f0 : List Int) (f1 : Int) (f2 : Int) : Prop := ∃ A0 c0, W.heap[g]? = some (.cells #[.slice A0 f0.length c0, .int .i64 f1, .int .i64 f2] 146 (0, 0)) ∧ w0.heap.size ≤ g ∧ Kd.C (Kd.int .u8) w0 A0 f0.length f0
theorem IsS146.grown {w0 W : World} {g : Nat} {f0 : List Int} {f1 : Int} {f2 : Int} {W1 : World} {row : Option Nat} (h : IsS146 w0 W g f0 f1 f2) (hw : W.grownBy W1 row) (hne : some g ≠ row) : IsS146 w0 W1 g f0 f1 f2 := by
  obtain ⟨A0, c0, hb, hg, hr0⟩ := h
  exact ⟨A0, c0, blk_grown hb hw hne, hg, hr0⟩
theorem IsS146.below {w0 W : World} {g : Nat} {f0 : List Int} {f1 : Int} {f2 : Int} {W1 : World} (h : IsS146 w0 W g f0 f1 f2) (hw : Below W.heap.size W W1) : IsS146 w0 W1 g f0 f1 f2 := h.grown (grown_of_below hw none) (by simp)
theorem IsS146.alloc {w0 W : World} {g : Nat} {f0 : List Int} {f1 : Int} {f2 : Int} (h : IsS146 w0 W g f0 f1 f2) (o : Obj) : IsS146 w0 (W.alloc o) g f0 f1 f2 := h.below (below_alloc (Below.refl _ _) o)
theorem IsS146.drewN {w0 W : World} {g : Nat} {f0 : List Int} {f1 : Int} {f2 : Int} (h : IsS146 w0 W g f0 f1 f2) (m : Nat) : IsS146 w0 (W.drewN m) g f0 f1 f2 := h
theorem IsS146.drew {w0 W : World} {g : Nat} {f0 : List Int} {f1 : Int} {f2 : Int} (h : IsS146 w0 W g f0 f1 f2) : IsS146 w0 W.drew g f0 f1 f2 := h
theorem IsS146.apart {w0 W : World} {g : Nat} {f0 : List Int} {f1 : Int} {f2 : Int} {α : Type} {d : Kd α} {e : Nat} {base : Nat} {ok : Nat → Prop} {v : Value} {xs : List α} (h : IsS146 w0 W g f0 f1 f2) (ho : d.R e W base ok v xs) (ht : ∀ q, q ∈ e :: d.E → q ≠ 146) : d.R e W base (fun k => ok k ∧ k ≠ g) v xs := by
  obtain ⟨A0, c0, hb, hg, hr0⟩ := h
  exact Kd.R_types ho hb ht
theorem IsS146.own_ne {w0 W : World} {g : Nat} {f0 : List Int} {f1 : Int} {f2 : Int} {α : Type} {d : Kd α} {e : Nat} {base : Nat} {ok : Nat → Prop} {v : Value} {xs : List α} (h : IsS146 w0 W g f0 f1 f2) (ho : d.R e W base ok v xs) (ht : e ≠ 146) : some g ≠ v.ownBlock := by
  obtain ⟨A0, c0, hb, hg, hr0⟩ := h
  exact Kd.R_ne ho hb ht
theorem IsS146.lt {w0 W : World} {g : Nat} {f0 : List Int} {f1 : Int} {f2 : Int} (h : IsS146 w0 W g f0 f1 f2) : g < W.heap.size := by
  obtain ⟨A0, c0, hb, hg, hr0⟩ := h
  exact blk_lt hb
theorem IsS146.ge {w0 W : World} {g : Nat} {f0 : List Int} {f1 : Int} {f2 : Int} (h : IsS146 w0 W g f0 f1 f2) : w0.heap.size ≤ g := by
  obtain ⟨A0, c0, hb, hg, hr0⟩ := h
  exact hg
theorem IsS146.ne_blk {w0 W : World} {g : Nat} {f0 : List Int} {f1 : Int} {f2 : Int} {a : Nat} {cs : Array Value} {t : TypeId} {fr : Nat × Nat} (h : IsS146 w0 W g f0 f1 f2) (hb2 : W.heap[a]? = some (.cells cs t fr)) (ht : t ≠ 146) : g ≠ a := by
  obtain ⟨A0, c0, hb, hg, hr0⟩ := h
  rintro rfl
  rw [hb] at hb2
  injection hb2 with hb2
  injection hb2 with _ ht2
  exact ht ht2.symm
theorem IsS146.far {w0 W : World} {g : Nat} {f0 : List Int} {f1 : Int} {f2 : Int} {p : Addr} (h : IsS146 w0 W g f0 f1 f2) (hne : g ≠ p.block) (u : Value) : IsS146 w0 (W.setCell p u) g f0 f1 f2 := by
  obtain ⟨A0, c0, hb, hg, hr0⟩ := h
  exact ⟨A0, c0, blk_far hb hne u, hg, hr0⟩
theorem cellS146_0 {W : World} {g : Nat} {A0 : Option Addr} {c0 : Nat} {f0 : List Int} {f1 : Int} {f2 : Int} (h : W.heap[g]? = some (.cells #[.slice A0 f0.length c0, .int .i64 f1, .int .i64 f2] 146 (0, 0))) : W.cell? ⟨g, 0, none⟩ = some (.slice A0 f0.length c0) := (blk_cell h 0).trans rfl
theorem cellS146_1 {W : World} {g : Nat} {A0 : Option Addr} {c0 : Nat} {f0 : List Int} {f1 : Int} {f2 : Int} (h : W.heap[g]? = some (.cells #[.slice A0 f0.length c0, .int .i64 f1, .int .i64 f2] 146 (0, 0))) : W.cell? ⟨g, 1, none⟩ = some (.int .i64 f1) := (blk_cell h 1).trans rfl
theorem IsS146.set_1 {w0 W : World} {g : Nat} {f0 : List Int} {f1 : Int} {f2 : Int} (h : IsS146 w0 W g f0 f1 f2) (x : Int) : IsS146 w0 (W.setCell ⟨g, 1, none⟩ (.int .i64 x)) g f0 x f2 := by
  obtain ⟨A0, c0, hb, hg, hr0⟩ := h
  exact ⟨A0, c0, by simpa using blk_set hb 1 (.int .i64 x), hg, hr0⟩
theorem cellS146_2 {W : World} {g : Nat} {A0 : Option Addr} {c0 : Nat} {f0 : List Int} {f1 : Int} {f2 : Int} (h : W.heap[g]? = some (.cells #[.slice A0 f0.length c0, .int .i64 f1, .int .i64 f2] 146 (0, 0))) : W.cell? ⟨g, 2, none⟩ = some (.int .i64 f2) := (blk_cell h 2).trans rfl
theorem IsS146.set_2 {w0 W : World} {g : Nat} {f0 : List Int} {f1 : Int} {f2 : Int} (h : IsS146 w0 W g f0 f1 f2) (x : Int) : IsS146 w0 (W.setCell ⟨g, 2, none⟩ (.int .i64 x)) g f0 f1 x := by
  obtain ⟨A0, c0, hb, hg, hr0⟩ := h
  exact ⟨A0, c0, by simpa using blk_set hb 2 (.int .i64 x), hg, hr0⟩
def spec_l1New.l0 : Nat → List Int → Int → Int → Option (List Int × Int × Int)
  | 0, _, _, _ => none
  | k + 1, x0, x3, x4 => if x4 < (x0.length : Int) then (if x4 < 4000 then (if 0 ≤ x4 then (spec_l1New.l0 k x0 (Go.bits .and .i64 (wrap64 ((wrap64 ((wrap64 (x3 * 131)) + (wrap64 (rd x0 x4)))) + 7)) 1073741823) (wrap64 (x4 + 1))) else (none)) else (some (x0, 0, x3))) else (some (x0, 0, x3))
def spec_l1New.f (k : Nat) (l0 : List Int) : Option (List Int × Int × Int) := spec_l1New.l0 k l0 (wrap64 (72072 + (l0.length : Int))) 0
set_option maxHeartbeats 8000000 in
set_option maxRecDepth 100000 in
theorem spec_l1New.calls (k : Nat) (A0 : Option Addr) (c0 : Nat) (l0 : List Int) (r1 : List Int) (r2 : Int) (r3 : Int) (w0 w : World) (hB : Below w0.heap.size w0 w) (hr0 : Kd.C (Kd.int .u8) w0 A0 l0.length l0) (hc0 : l0.length ≤ c0) (h : spec_l1New.f k l0 = some (r1, r2, r3)) :
    Calls Try.prog 70 #[.slice A0 l0.length c0] w fun e w' => ∃ g_ : Nat, e = .returned (.pointer (some ⟨g_, 0, none⟩)) ∧ IsS146 w0 w' g_ r1 r2 r3 ∧ Below w0.heap.size w0 w' ∧ Below w.heap.size w w' := by
  have hu146 := Try.underlying146
  have HR0 := Aside0.mk hr0
  have HC0 := Aside0.mk hc0
  clear hr0 hc0
  have HBW := Aside0.mk (Below.refl w.heap.size w)
  have HW0 := Aside0.mk hB.size
  have HB := Aside0.mk hB
  clear hB
  have H : (spec_l1New.l0 k l0 (wrap64 (72072 + (l0.length : Int))) 0) = some (r1, r2, r3) := h
  clear h
  have H' := Aside0.mk H
  clear H
  go_enter Try.func70, Try.ntmps70
  go_wp2
  go_loopg [3, 4] k (fun kq v3 v4 w' => ∃ (x3_1 : Int) (x4_1 : Int), v3 = .int .i64 x3_1 ∧ v4 = .int .i64 x4_1 ∧ Aside0 (spec_l1New.l0 kq l0 x3_1 x4_1 = some (r1, r2, r3)) ∧ Aside0 (kq ≤ k) ∧ Aside0 (Below w0.heap.size w0 w') ∧ Aside0 (Below w.heap.size w w'))
  case atStart => exact ⟨(wrap64 (72072 + (l0.length : Int))), (0), (by first | rfl | (simp; done) | (simp [*]; done)), (by first | rfl | (simp; done) | (simp [*]; done)), H', ⟨Nat.le_refl _⟩, ⟨hb_ HB.out⟩, ⟨by repeat (first | (with_reducible first | exact HBW.out | apply below_alloc | apply pw_below_drewN | apply below_drew1) | exact HBW.out)⟩⟩
  case round =>
    clear H'
    obtain ⟨x3_1, x4_1, rfl, rfl, HA, HK1, HB, HBW⟩ := hrel
    cases gk with
    | zero => exact absurd HA.out (by simp [spec_l1New.l0])
    | succ k1 =>
      have H := HA.out
      clear HA
      simp only [spec_l1New.l0] at H
      by_cases c2 : x4_1 < (l0.length : Int)
      · rw [if_pos c2] at H
        have c2b0 : decide (x4_1 < (l0.length : Int)) = true := decide_eq_true c2
        clear c2
        by_cases c3 : x4_1 < 4000
        · rw [if_pos c3] at H
          have c3b0 : decide (x4_1 < 4000) = true := decide_eq_true c3
          clear c3
          by_cases c4 : 0 ≤ x4_1
          · rw [if_pos c4] at H
            have c4b0 : decide (0 ≤ x4_1) = true := decide_eq_true c4
            clear c4
            have H' := Aside0.mk H
            clear H
            have p268 : 0 ≤ (x4_1 : Int) := of_decide_eq_true (by first | (with_reducible assumption) | assumption)
            have q268 : x4_1 < (l0.length : Int) := of_decide_eq_true (by first | (with_reducible assumption) | assumption)
            obtain ⟨ad268, e268, hx268_0⟩ := Kd.at_int HR0.out x4_1 p268 q268
            cases e268
            replace hx268_0 := pw_cell_below HB.out hx268_0
            replace p268 := eq_true p268
            replace q268 := eq_true q268
            go_wp2
            go_roundg k1
            case measure => have := HK1.out; omega
            case rel => exact ⟨(Go.bits .and .i64 (wrap64 ((wrap64 ((wrap64 (x3_1 * 131)) + (wrap64 (rd l0 x4_1)))) + 7)) 1073741823), (wrap64 (x4_1 + 1)), (by first | rfl | (simp; done) | (simp [*]; done)), (by first | rfl | (simp; done) | (simp [*]; done)), H', ⟨by have := HK1.out; omega⟩, ⟨hb_ HB.out⟩, ⟨by repeat (first | (with_reducible first | exact HBW.out | apply below_alloc | apply pw_below_drewN | apply below_drew1) | exact HBW.out)⟩⟩
          · rw [if_neg c4] at H
            exact absurd H (by simp)
        · rw [if_neg c3] at H
          have c3b0 : decide (x4_1 < 4000) = false := decide_eq_false c3
          clear c3
          simp only [Option.some.injEq, Prod.mk.injEq] at H
          obtain ⟨rfl, rfl, rfl⟩ := H
          go_wp2_with (first | ((with_reducible refine gate_dst (N := 31) rfl ?_); refine box_event ?hg (N := 31) ?hd (cs := #[.slice A0 l0.length c0, .int .i64 0, .int .i64 x3_1]) (t := 146) ?hr ?_; (case hd => rfl); (case hg => rfl); (case hr => first | (go_simp; done) | (go_simp; rfl)); intro gb269 hg w5 hbox hb; have n0_ := Aside0.mk (below_step HBW.out hb); have n1_ := Aside0.mk (below_step (hb_ HB.out) hb); have n2_ := Aside0.mk (hbox); have n3_ := Aside0.mk ((by rw [hg]; exact (below_size (by repeat (first | (with_reducible first | exact HBW.out | apply below_alloc | apply pw_below_drewN | apply below_drew1) | exact HBW.out))) : w.heap.size ≤ gb269)); have n4_ := Aside0.mk ((Nat.le_trans HW0.out (by rw [hg]; exact (below_size (by repeat (first | (with_reducible first | exact HBW.out | apply below_alloc | apply pw_below_drewN | apply below_drew1) | exact HBW.out))) : w.heap.size ≤ gb269) : w0.heap.size ≤ gb269)); clear HBW; clear HB; have HBW := n0_; have HB := n1_; have BK269 := n2_; have GW269 := n3_; have GE269 := n4_; clear n0_ n1_ n2_ n3_ n4_; clear hb hbox hg))
          go_ret
          exact ⟨_, rfl, (show IsS146 w0 _ gb269 l0 0 x3_1 from ⟨_, _, by (with_reducible repeat (first | refine blk_drewN ?_ _ | refine blk_drew ?_ | refine blk_alloc ?_ _)); exact BK269.out, GE269.out, HR0.out⟩), by repeat (first | (with_reducible first | exact HB.out | apply below_alloc | apply pw_below_drewN | apply below_drew1 | refine below_set ?_ GE269.out) | exact HB.out), by repeat (first | (with_reducible first | exact HBW.out | apply below_alloc | apply pw_below_drewN | apply below_drew1 | refine below_set ?_ GW269.out) | exact HBW.out)⟩
      · rw [if_neg c2] at H
        have c2b0 : decide (x4_1 < (l0.length : Int)) = false := decide_eq_false c2
        clear c2
        simp only [Option.some.injEq, Prod.mk.injEq] at H
        obtain ⟨rfl, rfl, rfl⟩ := H
        go_wp2_with (first | ((with_reducible refine gate_dst (N := 31) rfl ?_); refine box_event ?hg (N := 31) ?hd (cs := #[.slice A0 l0.length c0, .int .i64 0, .int .i64 x3_1]) (t := 146) ?hr ?_; (case hd => rfl); (case hg => rfl); (case hr => first | (go_simp; done) | (go_simp; rfl)); intro gb270 hg w6 hbox hb; have n0_ := Aside0.mk (below_step HBW.out hb); have n1_ := Aside0.mk (below_step (hb_ HB.out) hb); have n2_ := Aside0.mk (hbox); have n3_ := Aside0.mk ((by rw [hg]; exact (below_size (by repeat (first | (with_reducible first | exact HBW.out | apply below_alloc | apply pw_below_drewN | apply below_drew1) | exact HBW.out))) : w.heap.size ≤ gb270)); have n4_ := Aside0.mk ((Nat.le_trans HW0.out (by rw [hg]; exact (below_size (by repeat (first | (with_reducible first | exact HBW.out | apply below_alloc | apply pw_below_drewN | apply below_drew1) | exact HBW.out))) : w.heap.size ≤ gb270) : w0.heap.size ≤ gb270)); clear HBW; clear HB; have HBW := n0_; have HB := n1_; have BK270 := n2_; have GW270 := n3_; have GE270 := n4_; clear n0_ n1_ n2_ n3_ n4_; clear hb hbox hg))
        go_ret
        exact ⟨_, rfl, (show IsS146 w0 _ gb270 l0 0 x3_1 from ⟨_, _, by (with_reducible repeat (first | refine blk_drewN ?_ _ | refine blk_drew ?_ | refine blk_alloc ?_ _)); exact BK270.out, GE270.out, HR0.out⟩), by repeat (first | (with_reducible first | exact HB.out | apply below_alloc | apply pw_below_drewN | apply below_drew1 | refine below_set ?_ GE270.out) | exact HB.out), by repeat (first | (with_reducible first | exact HBW.out | apply below_alloc | apply pw_below_drewN | apply below_drew1 | refine below_set ?_ GW270.out) | exact HBW.out)⟩
def spec_l1Size.f (l0 : List Int) (a1 : Int) : Option (Int) := if (wrap64 (2 + (wrap64 ((l0.length : Int) / 20)))) > a1 then (some a1) else (some (wrap64 (2 + (wrap64 ((l0.length : Int) / 20)))))
set_option maxHeartbeats 8000000 in
set_option maxRecDepth 100000 in
theorem spec_l1Size.calls (A0 : Option Addr) (c0 : Nat) (l0 : List Int) (a1 : Int) (r : Int) (w : World) (hr0 : Kd.C (Kd.int .u8) w A0 l0.length l0) (hc0 : l0.length ≤ c0) (h : spec_l1Size.f l0 a1 = some r) :
    Calls Try.prog 73 #[.slice A0 l0.length c0, .int .i64 a1] w fun e w' => e = .returned (.int .i64 r) ∧ Drawn0 w w' := by
  have HR0 := Aside0.mk hr0
  have HC0 := Aside0.mk hc0
  clear hr0 hc0
  have H : (if (wrap64 (2 + (wrap64 ((l0.length : Int) / 20)))) > a1 then (some a1) else (some (wrap64 (2 + (wrap64 ((l0.length : Int) / 20)))))) = some r := h
  clear h
  by_cases c3 : (wrap64 (2 + (wrap64 ((l0.length : Int) / 20)))) > a1
  · rw [if_pos c3] at H
    have c3b0 : decide (a1 < (wrap64 (2 + (wrap64 ((l0.length : Int) / 20))))) = true := decide_eq_true c3
    clear c3
    obtain rfl := Option.some.inj H
    go_enter Try.func73, Try.ntmps73
    go_wp2
    go_ret
    exact ⟨by first | rfl | (simp; done) | (simp [*]; done), by repeat (first | exact Drawn0.refl _ | apply Drawn0.step)⟩
  · rw [if_neg c3] at H
    have c3b0 : decide (a1 < (wrap64 (2 + (wrap64 ((l0.length : Int) / 20))))) = false := decide_eq_false c3
    clear c3
    obtain rfl := Option.some.inj H
    go_enter Try.func73, Try.ntmps73
    go_wp2
    go_ret
    exact ⟨by first | rfl | (simp; done) | (simp [*]; done), by repeat (first | exact Drawn0.refl _ | apply Drawn0.step)⟩
def spec_l1Byte.f (s0_0 : List Int) (s0_1 : Int) (s0_2 : Int) : Option (Int × Int × Int) := if s0_1 < (s0_0.length : Int) then (if 0 ≤ s0_1 then (some (Go.bits .and .i64 (wrap64 ((Go.bits .and .i64 (Go.bits .xor .i64 ((wrap64 ((wrap64 (s0_2 * 6364136223846793005)) + 1442695040888963407)) / 8589934592) ((wrap64 ((wrap64 (s0_2 * 6364136223846793005)) + 1442695040888963407)) / 35184372088832)) 255) + (wrap64 (rd s0_0 s0_1)))) 255, wrap64 (s0_1 + 1), wrap64 ((wrap64 (s0_2 * 6364136223846793005)) + 1442695040888963407))) else (none)) else (some (Go.bits .and .i64 (Go.bits .xor .i64 ((wrap64 ((wrap64 (s0_2 * 6364136223846793005)) + 1442695040888963407)) / 8589934592) ((wrap64 ((wrap64 (s0_2 * 6364136223846793005)) + 1442695040888963407)) / 35184372088832)) 255, s0_1, wrap64 ((wrap64 (s0_2 * 6364136223846793005)) + 1442695040888963407)))
set_option maxHeartbeats 8000000 in
set_option maxRecDepth 100000 in
theorem spec_l1Byte.calls (g : Nat) (s0_0 : List Int) (s0_1 : Int) (s0_2 : Int) (r1 : Int) (r2 : Int) (r3 : Int) (w0 w : World) (hI : IsS146 w0 w g s0_0 s0_1 s0_2) (hB : Below w0.heap.size w0 w) (h : spec_l1Byte.f s0_0 s0_1 s0_2 = some (r1, r2, r3)) :
    Calls Try.prog 114 #[.pointer (some ⟨g, 0, none⟩)] w fun e w' => e = .returned (.int .i64 r1) ∧ IsS146 w0 w' g s0_0 r2 r3 ∧ Below w0.heap.size w0 w' ∧ KeepBut w w' g none := by
  have HI0 := Aside0.mk hI
  have HK := Aside0.mk (KeepBut.refl w g none)
  have HL := Aside0.mk hB.size
  clear hI
  have HW0 := Aside0.mk hB.size
  have HB := Aside0.mk hB
  clear hB
  have H : (if s0_1 < (s0_0.length : Int) then (if 0 ≤ s0_1 then (some (Go.bits .and .i64 (wrap64 ((Go.bits .and .i64 (Go.bits .xor .i64 ((wrap64 ((wrap64 (s0_2 * 6364136223846793005)) + 1442695040888963407)) / 8589934592) ((wrap64 ((wrap64 (s0_2 * 6364136223846793005)) + 1442695040888963407)) / 35184372088832)) 255) + (wrap64 (rd s0_0 s0_1)))) 255, wrap64 (s0_1 + 1), wrap64 ((wrap64 (s0_2 * 6364136223846793005)) + 1442695040888963407))) else (none)) else (some (Go.bits .and .i64 (Go.bits .xor .i64 ((wrap64 ((wrap64 (s0_2 * 6364136223846793005)) + 1442695040888963407)) / 8589934592) ((wrap64 ((wrap64 (s0_2 * 6364136223846793005)) + 1442695040888963407)) / 35184372088832)) 255, s0_1, wrap64 ((wrap64 (s0_2 * 6364136223846793005)) + 1442695040888963407)))) = some (r1, r2, r3) := h
  clear h
  by_cases c2 : s0_1 < (s0_0.length : Int)
  · rw [if_pos c2] at H
    have c2b0 : decide (s0_1 < (s0_0.length : Int)) = true := decide_eq_true c2
    clear c2
    by_cases c3 : 0 ≤ s0_1
    · rw [if_pos c3] at H
      have c3b0 : decide (0 ≤ s0_1) = true := decide_eq_true c3
      clear c3
      simp only [Option.some.injEq, Prod.mk.injEq] at H
      obtain ⟨rfl, rfl, rfl⟩ := H
      obtain ⟨ASz4_0, cSz4_0, HGz4, hgz4, HSz4_0⟩ := HI0.out
      have hcz4_0 := cellS146_0 HGz4
      have hcz4_1 := cellS146_1 HGz4
      have hcz4_2 := cellS146_2 HGz4
      have hfz4_1 := blk_frozen HGz4 1
      have hfz4_2 := blk_frozen HGz4 2
      clear HGz4 hgz4
      have p271 : 0 ≤ (s0_1 : Int) := of_decide_eq_true (by first | (with_reducible assumption) | assumption)
      have q271 : s0_1 < (s0_0.length : Int) := of_decide_eq_true (by first | (with_reducible assumption) | assumption)
      obtain ⟨ad271, e271, hx271_0⟩ := Kd.at_int HSz4_0 s0_1 p271 q271
      cases e271
      have hn271_0 : ad271.block ≠ g := Nat.ne_of_lt (Nat.lt_of_lt_of_le (by have := World.block_lt_of_cell? _ _ hx271_0; first | rwa [add_block] at this | exact this) (IsS146.ge HI0.out))
      replace hx271_0 := pw_cell_below HB.out hx271_0
      replace hx271_0 := (cell_far (p := ⟨g, 2, none⟩) (by first | (rw [add_block]; exact hn271_0) | (show (Addr.add _ _).block ≠ _; rw [add_block]; exact hn271_0) | exact hn271_0) (.int .i64 (wrap64 ((wrap64 (s0_2 * 6364136223846793005)) + 1442695040888963407)))).trans hx271_0
      (try have hy271_0 := fun (n_ : Nat) => (show (((w.drewN n_).setCell ⟨g, 2, none⟩ (.int .i64 (wrap64 ((wrap64 (s0_2 * 6364136223846793005)) + 1442695040888963407))))).cell? _ = some _ from hx271_0))
      clear hn271_0
      replace p271 := eq_true p271
      replace q271 := eq_true q271
      go_enter Try.func114, Try.ntmps114
      go_wp2
      repeat (go_quiet (fail); try go_wp2)
      go_ret
      exact ⟨er_, by repeat (first | (with_reducible first | exact HI0.out | apply IsS146.alloc | apply IsS146.drewN | apply IsS146.drew | apply IsS146.set_1 | apply IsS146.set_2) | exact HI0.out), by repeat (first | (with_reducible first | exact HB.out | apply below_alloc | apply pw_below_drewN | apply below_drew1 | refine below_set ?_ (IsS146.ge HI0.out)) | exact HB.out), by repeat (first | (with_reducible first | exact HK.out | apply KeepBut.set_ | apply keep_drewN | apply keep_drew | apply keep_alloc) | exact HK.out)⟩
    · rw [if_neg c3] at H
      exact absurd H (by simp)
  · rw [if_neg c2] at H
    have c2b0 : decide (s0_1 < (s0_0.length : Int)) = false := decide_eq_false c2
    clear c2
    simp only [Option.some.injEq, Prod.mk.injEq] at H
    obtain ⟨rfl, rfl, rfl⟩ := H
    obtain ⟨ASz5_0, cSz5_0, HGz5, hgz5, HSz5_0⟩ := HI0.out
    have hcz5_0 := cellS146_0 HGz5
    have hcz5_1 := cellS146_1 HGz5
    have hcz5_2 := cellS146_2 HGz5
    have hfz5_1 := blk_frozen HGz5 1
    have hfz5_2 := blk_frozen HGz5 2
    clear HGz5 hgz5
    go_enter Try.func114, Try.ntmps114
    go_wp2
    repeat (go_quiet (fail); try go_wp2)
    go_ret
    exact ⟨er_, by repeat (first | (with_reducible first | exact HI0.out | apply IsS146.alloc | apply IsS146.drewN | apply IsS146.drew | apply IsS146.set_1 | apply IsS146.set_2) | exact HI0.out), by repeat (first | (with_reducible first | exact HB.out | apply below_alloc | apply pw_below_drewN | apply below_drew1 | refine below_set ?_ (IsS146.ge HI0.out)) | exact HB.out), by repeat (first | (with_reducible first | exact HK.out | apply KeepBut.set_ | apply keep_drewN | apply keep_drew | apply keep_alloc) | exact HK.out)⟩
def spec_l1Below.f (s0_0 : List Int) (s0_1 : Int) (s0_2 : Int) (a1 : Int) : Option (Int × Int × Int) := if a1 ≤ 0 then (some (0, s0_1, s0_2)) else (if a1 ≤ 256 then ((spec_l1Byte.f s0_0 s0_1 s0_2).bind fun bt272 => (if a1 = 0 then (none) else (some (Int.tmod bt272.1 a1, bt272.2.1, bt272.2.2)))) else ((spec_l1Byte.f s0_0 s0_1 s0_2).bind fun bt275 => ((spec_l1Byte.f s0_0 bt275.2.1 bt275.2.2).bind fun bt278 => ((spec_l1Byte.f s0_0 bt278.2.1 bt278.2.2).bind fun bt281 => ((spec_l1Byte.f s0_0 bt281.2.1 bt281.2.2).bind fun bt284 => (if a1 = 0 then (none) else (some (Int.tmod (wrap64 ((wrap64 ((wrap64 ((wrap64 (bt275.1 * 16777216)) + (wrap64 (bt278.1 * 65536)))) + (wrap64 (bt281.1 * 256)))) + bt284.1)) a1, bt284.2.1, bt284.2.2))))))))
set_option maxHeartbeats 8000000 in
set_option maxRecDepth 100000 in
theorem spec_l1Below.calls (g : Nat) (s0_0 : List Int) (s0_1 : Int) (s0_2 : Int) (a1 : Int) (r1 : Int) (r2 : Int) (r3 : Int) (w0 w : World) (hI : IsS146 w0 w g s0_0 s0_1 s0_2) (hB : Below w0.heap.size w0 w) (h : spec_l1Below.f s0_0 s0_1 s0_2 a1 = some (r1, r2, r3)) :
    Calls Try.prog 72 #[.pointer (some ⟨g, 0, none⟩), .int .i64 a1] w fun e w' => e = .returned (.int .i64 r1) ∧ IsS146 w0 w' g s0_0 r2 r3 ∧ Below w0.heap.size w0 w' ∧ KeepBut w w' g none := by
  have HI0 := Aside0.mk hI
  have HK := Aside0.mk (KeepBut.refl w g none)
  have HL := Aside0.mk hB.size
  clear hI
  have HW0 := Aside0.mk hB.size
  have HB := Aside0.mk hB
  clear hB
  have H : (if a1 ≤ 0 then (some (0, s0_1, s0_2)) else (if a1 ≤ 256 then ((spec_l1Byte.f s0_0 s0_1 s0_2).bind fun bt272 => (if a1 = 0 then (none) else (some (Int.tmod bt272.1 a1, bt272.2.1, bt272.2.2)))) else ((spec_l1Byte.f s0_0 s0_1 s0_2).bind fun bt275 => ((spec_l1Byte.f s0_0 bt275.2.1 bt275.2.2).bind fun bt278 => ((spec_l1Byte.f s0_0 bt278.2.1 bt278.2.2).bind fun bt281 => ((spec_l1Byte.f s0_0 bt281.2.1 bt281.2.2).bind fun bt284 => (if a1 = 0 then (none) else (some (Int.tmod (wrap64 ((wrap64 ((wrap64 ((wrap64 (bt275.1 * 16777216)) + (wrap64 (bt278.1 * 65536)))) + (wrap64 (bt281.1 * 256)))) + bt284.1)) a1, bt284.2.1, bt284.2.2))))))))) = some (r1, r2, r3) := h
  clear h
  by_cases c3 : a1 ≤ 0
  · rw [if_pos c3] at H
    have c3b0 : decide (a1 ≤ 0) = true := decide_eq_true c3
    clear c3
    simp only [Option.some.injEq, Prod.mk.injEq] at H
    obtain ⟨rfl, rfl, rfl⟩ := H
    go_enter Try.func72, Try.ntmps72
    go_wp2
    go_ret
    exact ⟨er_, by repeat (first | (with_reducible first | exact HI0.out | apply IsS146.alloc | apply IsS146.drewN | apply IsS146.drew | apply IsS146.set_1 | apply IsS146.set_2) | exact HI0.out), by repeat (first | (with_reducible first | exact HB.out | apply below_alloc | apply pw_below_drewN | apply below_drew1 | refine below_set ?_ (IsS146.ge HI0.out)) | exact HB.out), by repeat (first | (with_reducible first | exact HK.out | apply KeepBut.set_ | apply keep_drewN | apply keep_drew | apply keep_alloc) | exact HK.out)⟩
  · rw [if_neg c3] at H
    have c3b0 : decide (a1 ≤ 0) = false := decide_eq_false c3
    clear c3
    by_cases c4 : a1 ≤ 256
    · rw [if_pos c4] at H
      have c4b0 : decide (a1 ≤ 256) = true := decide_eq_true c4
      clear c4
      replace H := Option.bind_eq_some_iff.mp H
      obtain ⟨⟨t272, t273, t274⟩, A50, H⟩ := H
      replace H : (if a1 = 0 then (none) else (some (Int.tmod t272 a1, t273, t274))) = some (r1, r2, r3) := H
      have A5 := Aside0.mk A50
      clear A50
      by_cases c6 : a1 = 0
      · rw [if_pos c6] at H
        exact absurd H (by simp)
      · rw [if_neg c6] at H
        have c6b0 : (a1 == 0) = false := beq_eq_false_iff_ne.mpr c6
        have c6b1 : (a1 != 0) = true := bne_iff_ne.mpr c6
        simp only [Option.some.injEq, Prod.mk.injEq] at H
        obtain ⟨rfl, rfl, rfl⟩ := H
        go_enter Try.func72, Try.ntmps72
        go_wp2_with (first | ((with_reducible refine gate_callee (f := 114) rfl ?_); refine goesL_ (some 14) rfl rfl Try.func114 (by kernel_rfl) rfl #[.pointer (some ⟨g, 0, none⟩)] rfl arr_ ?_; (with_reducible refine (spec_l1Byte.calls g s0_0 s0_1 s0_2 t272 t273 t274 w0 _ ?side1 ?side2 A5.out).mono ?_); (case side1 => repeat (first | (with_reducible first | exact HI0.out | apply IsS146.alloc | apply IsS146.drewN | apply IsS146.drew | apply IsS146.set_1 | apply IsS146.set_2) | exact HI0.out)); (case side2 => repeat (first | (with_reducible first | exact HB.out | apply below_alloc | apply pw_below_drewN | apply below_drew1 | refine below_set ?_ (IsS146.ge HI0.out)) | exact HB.out)); rintro e w7 ⟨rfl, hi, hb, hk⟩; refine ⟨_, rfl, ?_⟩; have n0_ := Aside0.mk (KeepBut.trans (by repeat (first | (with_reducible first | exact HK.out | apply KeepBut.set_ | apply keep_drewN | apply keep_drew | apply keep_alloc) | exact HK.out)) hk (.inl rfl)); have n1_ := Aside0.mk (hb); have n2_ := Aside0.mk (hi); clear HK; clear HB; clear HI0; have HK := n0_; have HB := n1_; have HI0 := n2_; clear n0_ n1_ n2_; (try clear hb); (try clear hb2); (try clear hk); (try clear hi)))
        go_ret
        exact ⟨er_, by repeat (first | (with_reducible first | exact HI0.out | apply IsS146.alloc | apply IsS146.drewN | apply IsS146.drew | apply IsS146.set_1 | apply IsS146.set_2) | exact HI0.out), by repeat (first | (with_reducible first | exact HB.out | apply below_alloc | apply pw_below_drewN | apply below_drew1 | refine below_set ?_ (IsS146.ge HI0.out)) | exact HB.out), by repeat (first | (with_reducible first | exact HK.out | apply KeepBut.set_ | apply keep_drewN | apply keep_drew | apply keep_alloc) | exact HK.out)⟩
    · rw [if_neg c4] at H
      have c4b0 : decide (a1 ≤ 256) = false := decide_eq_false c4
      clear c4
      replace H := Option.bind_eq_some_iff.mp H
      obtain ⟨⟨t275, t276, t277⟩, A80, H⟩ := H
      replace H : ((spec_l1Byte.f s0_0 t276 t277).bind fun bt278 => ((spec_l1Byte.f s0_0 bt278.2.1 bt278.2.2).bind fun bt281 => ((spec_l1Byte.f s0_0 bt281.2.1 bt281.2.2).bind fun bt284 => (if a1 = 0 then (none) else (some (Int.tmod (wrap64 ((wrap64 ((wrap64 ((wrap64 (t275 * 16777216)) + (wrap64 (bt278.1 * 65536)))) + (wrap64 (bt281.1 * 256)))) + bt284.1)) a1, bt284.2.1, bt284.2.2)))))) = some (r1, r2, r3) := H
      have A8 := Aside0.mk A80
      clear A80
      replace H := Option.bind_eq_some_iff.mp H
      obtain ⟨⟨t278, t279, t280⟩, A90, H⟩ := H
      replace H : ((spec_l1Byte.f s0_0 t279 t280).bind fun bt281 => ((spec_l1Byte.f s0_0 bt281.2.1 bt281.2.2).bind fun bt284 => (if a1 = 0 then (none) else (some (Int.tmod (wrap64 ((wrap64 ((wrap64 ((wrap64 (t275 * 16777216)) + (wrap64 (t278 * 65536)))) + (wrap64 (bt281.1 * 256)))) + bt284.1)) a1, bt284.2.1, bt284.2.2))))) = some (r1, r2, r3) := H
      have A9 := Aside0.mk A90
      clear A90
      replace H := Option.bind_eq_some_iff.mp H
      obtain ⟨⟨t281, t282, t283⟩, A100, H⟩ := H
      replace H : ((spec_l1Byte.f s0_0 t282 t283).bind fun bt284 => (if a1 = 0 then (none) else (some (Int.tmod (wrap64 ((wrap64 ((wrap64 ((wrap64 (t275 * 16777216)) + (wrap64 (t278 * 65536)))) + (wrap64 (t281 * 256)))) + bt284.1)) a1, bt284.2.1, bt284.2.2)))) = some (r1, r2, r3) := H
      have A10 := Aside0.mk A100
      clear A100
      replace H := Option.bind_eq_some_iff.mp H
      obtain ⟨⟨t284, t285, t286⟩, A110, H⟩ := H
      replace H : (if a1 = 0 then (none) else (some (Int.tmod (wrap64 ((wrap64 ((wrap64 ((wrap64 (t275 * 16777216)) + (wrap64 (t278 * 65536)))) + (wrap64 (t281 * 256)))) + t284)) a1, t285, t286))) = some (r1, r2, r3) := H
      have A11 := Aside0.mk A110
      clear A110
      by_cases c12 : a1 = 0
      · rw [if_pos c12] at H
        exact absurd H (by simp)
      · rw [if_neg c12] at H
        have c12b0 : (a1 == 0) = false := beq_eq_false_iff_ne.mpr c12
        have c12b1 : (a1 != 0) = true := bne_iff_ne.mpr c12
        simp only [Option.some.injEq, Prod.mk.injEq] at H
        obtain ⟨rfl, rfl, rfl⟩ := H
        go_enter Try.func72, Try.ntmps72
        go_wp2_with (first | ((with_reducible refine gate_callee (f := 114) rfl ?_); refine goesL_ (some 18) rfl rfl Try.func114 (by kernel_rfl) rfl #[.pointer (some ⟨g, 0, none⟩)] rfl arr_ ?_; (with_reducible refine (spec_l1Byte.calls g s0_0 s0_1 s0_2 t275 t276 t277 w0 _ ?side1 ?side2 A8.out).mono ?_); (case side1 => repeat (first | (with_reducible first | exact HI0.out | apply IsS146.alloc | apply IsS146.drewN | apply IsS146.drew | apply IsS146.set_1 | apply IsS146.set_2) | exact HI0.out)); (case side2 => repeat (first | (with_reducible first | exact HB.out | apply below_alloc | apply pw_below_drewN | apply below_drew1 | refine below_set ?_ (IsS146.ge HI0.out)) | exact HB.out)); rintro e w13 ⟨rfl, hi, hb, hk⟩; refine ⟨_, rfl, ?_⟩; have n0_ := Aside0.mk (KeepBut.trans (by repeat (first | (with_reducible first | exact HK.out | apply KeepBut.set_ | apply keep_drewN | apply keep_drew | apply keep_alloc) | exact HK.out)) hk (.inl rfl)); have n1_ := Aside0.mk (hb); have n2_ := Aside0.mk (hi); clear HK; clear HB; clear HI0; have HK := n0_; have HB := n1_; have HI0 := n2_; clear n0_ n1_ n2_; (try clear hb); (try clear hb2); (try clear hk); (try clear hi)) | ((with_reducible refine gate_callee (f := 114) rfl ?_); refine goesL_ (some 20) rfl rfl Try.func114 (by kernel_rfl) rfl #[.pointer (some ⟨g, 0, none⟩)] rfl arr_ ?_; (with_reducible refine (spec_l1Byte.calls g s0_0 t276 t277 t278 t279 t280 w0 _ ?side1 ?side2 A9.out).mono ?_); (case side1 => repeat (first | (with_reducible first | exact HI0.out | apply IsS146.alloc | apply IsS146.drewN | apply IsS146.drew | apply IsS146.set_1 | apply IsS146.set_2) | exact HI0.out)); (case side2 => repeat (first | (with_reducible first | exact HB.out | apply below_alloc | apply pw_below_drewN | apply below_drew1 | refine below_set ?_ (IsS146.ge HI0.out)) | exact HB.out)); rintro e w14 ⟨rfl, hi, hb, hk⟩; refine ⟨_, rfl, ?_⟩; have n0_ := Aside0.mk (KeepBut.trans (by repeat (first | (with_reducible first | exact HK.out | apply KeepBut.set_ | apply keep_drewN | apply keep_drew | apply keep_alloc) | exact HK.out)) hk (.inl rfl)); have n1_ := Aside0.mk (hb); have n2_ := Aside0.mk (hi); clear HK; clear HB; clear HI0; have HK := n0_; have HB := n1_; have HI0 := n2_; clear n0_ n1_ n2_; (try clear hb); (try clear hb2); (try clear hk); (try clear hi)) | ((with_reducible refine gate_callee (f := 114) rfl ?_); refine goesL_ (some 22) rfl rfl Try.func114 (by kernel_rfl) rfl #[.pointer (some ⟨g, 0, none⟩)] rfl arr_ ?_; (with_reducible refine (spec_l1Byte.calls g s0_0 t279 t280 t281 t282 t283 w0 _ ?side1 ?side2 A10.out).mono ?_); (case side1 => repeat (first | (with_reducible first | exact HI0.out | apply IsS146.alloc | apply IsS146.drewN | apply IsS146.drew | apply IsS146.set_1 | apply IsS146.set_2) | exact HI0.out)); (case side2 => repeat (first | (with_reducible first | exact HB.out | apply below_alloc | apply pw_below_drewN | apply below_drew1 | refine below_set ?_ (IsS146.ge HI0.out)) | exact HB.out)); rintro e w15 ⟨rfl, hi, hb, hk⟩; refine ⟨_, rfl, ?_⟩; have n0_ := Aside0.mk (KeepBut.trans (by repeat (first | (with_reducible first | exact HK.out | apply KeepBut.set_ | apply keep_drewN | apply keep_drew | apply keep_alloc) | exact HK.out)) hk (.inl rfl)); have n1_ := Aside0.mk (hb); have n2_ := Aside0.mk (hi); clear HK; clear HB; clear HI0; have HK := n0_; have HB := n1_; have HI0 := n2_; clear n0_ n1_ n2_; (try clear hb); (try clear hb2); (try clear hk); (try clear hi)) | ((with_reducible refine gate_callee (f := 114) rfl ?_); refine goesL_ (some 24) rfl rfl Try.func114 (by kernel_rfl) rfl #[.pointer (some ⟨g, 0, none⟩)] rfl arr_ ?_; (with_reducible refine (spec_l1Byte.calls g s0_0 t282 t283 t284 t285 t286 w0 _ ?side1 ?side2 A11.out).mono ?_); (case side1 => repeat (first | (with_reducible first | exact HI0.out | apply IsS146.alloc | apply IsS146.drewN | apply IsS146.drew | apply IsS146.set_1 | apply IsS146.set_2) | exact HI0.out)); (case side2 => repeat (first | (with_reducible first | exact HB.out | apply below_alloc | apply pw_below_drewN | apply below_drew1 | refine below_set ?_ (IsS146.ge HI0.out)) | exact HB.out)); rintro e w16 ⟨rfl, hi, hb, hk⟩; refine ⟨_, rfl, ?_⟩; have n0_ := Aside0.mk (KeepBut.trans (by repeat (first | (with_reducible first | exact HK.out | apply KeepBut.set_ | apply keep_drewN | apply keep_drew | apply keep_alloc) | exact HK.out)) hk (.inl rfl)); have n1_ := Aside0.mk (hb); have n2_ := Aside0.mk (hi); clear HK; clear HB; clear HI0; have HK := n0_; have HB := n1_; have HI0 := n2_; clear n0_ n1_ n2_; (try clear hb); (try clear hb2); (try clear hk); (try clear hi)))
        go_ret
        exact ⟨er_, by repeat (first | (with_reducible first | exact HI0.out | apply IsS146.alloc | apply IsS146.drewN | apply IsS146.drew | apply IsS146.set_1 | apply IsS146.set_2) | exact HI0.out), by repeat (first | (with_reducible first | exact HB.out | apply below_alloc | apply pw_below_drewN | apply below_drew1 | refine below_set ?_ (IsS146.ge HI0.out)) | exact HB.out), by repeat (first | (with_reducible first | exact HK.out | apply KeepBut.set_ | apply keep_drewN | apply keep_drew | apply keep_alloc) | exact HK.out)⟩
def spec_l1Once.f (s0_0 : List Int) (s0_1 : Int) (s0_2 : Int) (a1 : Int) : Option (Bool × Int × Int) := (spec_l1Below.f s0_0 s0_1 s0_2 a1).bind fun bt338 => (some ((bt338.1 == 0), bt338.2.1, bt338.2.2))
set_option maxHeartbeats 8000000 in
set_option maxRecDepth 100000 in
theorem spec_l1Once.calls (g : Nat) (s0_0 : List Int) (s0_1 : Int) (s0_2 : Int) (a1 : Int) (r1 : Bool) (r2 : Int) (r3 : Int) (w0 w : World) (hI : IsS146 w0 w g s0_0 s0_1 s0_2) (hB : Below w0.heap.size w0 w) (h : spec_l1Once.f s0_0 s0_1 s0_2 a1 = some (r1, r2, r3)) :
    Calls Try.prog 74 #[.pointer (some ⟨g, 0, none⟩), .int .i64 a1] w fun e w' => e = .returned (.bool r1) ∧ IsS146 w0 w' g s0_0 r2 r3 ∧ Below w0.heap.size w0 w' ∧ KeepBut w w' g none := by
  have HI0 := Aside0.mk hI
  have HK := Aside0.mk (KeepBut.refl w g none)
  have HL := Aside0.mk hB.size
  clear hI
  have HW0 := Aside0.mk hB.size
  have HB := Aside0.mk hB
  clear hB
  have H : ((spec_l1Below.f s0_0 s0_1 s0_2 a1).bind fun bt338 => (some ((bt338.1 == 0), bt338.2.1, bt338.2.2))) = some (r1, r2, r3) := h
  clear h
  replace H := Option.bind_eq_some_iff.mp H
  obtain ⟨⟨t338, t339, t340⟩, A30, H⟩ := H
  replace H : (some ((t338 == 0), t339, t340)) = some (r1, r2, r3) := H
  have A3 := Aside0.mk A30
  clear A30
  simp only [Option.some.injEq, Prod.mk.injEq] at H
  obtain ⟨rfl, rfl, rfl⟩ := H
  go_enter Try.func74, Try.ntmps74
  go_wp2_with (first | ((with_reducible refine gate_callee (f := 72) rfl ?_); refine goesL_ (some 7) rfl rfl Try.func72 (by kernel_rfl) rfl #[.pointer (some ⟨g, 0, none⟩), .int .i64 a1] rfl arr_ ?_; (with_reducible refine (spec_l1Below.calls g s0_0 s0_1 s0_2 a1 t338 t339 t340 w0 _ ?side1 ?side2 A3.out).mono ?_); (case side1 => repeat (first | (with_reducible first | exact HI0.out | apply IsS146.alloc | apply IsS146.drewN | apply IsS146.drew | apply IsS146.set_1 | apply IsS146.set_2) | exact HI0.out)); (case side2 => repeat (first | (with_reducible first | exact HB.out | apply below_alloc | apply pw_below_drewN | apply below_drew1 | refine below_set ?_ (IsS146.ge HI0.out)) | exact HB.out)); rintro e w4 ⟨rfl, hi, hb, hk⟩; refine ⟨_, rfl, ?_⟩; have n0_ := Aside0.mk (KeepBut.trans (by repeat (first | (with_reducible first | exact HK.out | apply KeepBut.set_ | apply keep_drewN | apply keep_drew | apply keep_alloc) | exact HK.out)) hk (.inl rfl)); have n1_ := Aside0.mk (hb); have n2_ := Aside0.mk (hi); clear HK; clear HB; clear HI0; have HK := n0_; have HB := n1_; have HI0 := n2_; clear n0_ n1_ n2_; (try clear hb); (try clear hb2); (try clear hk); (try clear hi)))
  go_ret
  exact ⟨er_, by repeat (first | (with_reducible first | exact HI0.out | apply IsS146.alloc | apply IsS146.drewN | apply IsS146.drew | apply IsS146.set_1 | apply IsS146.set_2) | exact HI0.out), by repeat (first | (with_reducible first | exact HB.out | apply below_alloc | apply pw_below_drewN | apply below_drew1 | refine below_set ?_ (IsS146.ge HI0.out)) | exact HB.out), by repeat (first | (with_reducible first | exact HK.out | apply KeepBut.set_ | apply keep_drewN | apply keep_drew | apply keep_alloc) | exact HK.out)⟩
def spec_l1PickInt.f (s0_0 : List Int) (s0_1 : Int) (s0_2 : Int) (l1 : List Int) : Option (Int × Int × Int) := (spec_l1Below.f s0_0 s0_1 s0_2 (l1.length : Int)).bind fun bt287 => (if 0 ≤ bt287.1 then (if bt287.1 < (l1.length : Int) then (some (rd l1 bt287.1, bt287.2.1, bt287.2.2)) else (none)) else (none))
set_option maxHeartbeats 8000000 in
set_option maxRecDepth 100000 in
theorem spec_l1PickInt.calls (g : Nat) (s0_0 : List Int) (s0_1 : Int) (s0_2 : Int) (A1 : Option Addr) (c1 : Nat) (l1 : List Int) (r1 : Int) (r2 : Int) (r3 : Int) (w0 w : World) (hI : IsS146 w0 w g s0_0 s0_1 s0_2) (hB : Below w0.heap.size w0 w) (hr1 : Kd.C (Kd.int .i64) w A1 l1.length l1) (hc1 : l1.length ≤ c1) (hf1 : ∀ ad, A1 = some ad → 0 < l1.length → ad.block ≠ g) (h : spec_l1PickInt.f s0_0 s0_1 s0_2 l1 = some (r1, r2, r3)) :
    Calls Try.prog 112 #[.pointer (some ⟨g, 0, none⟩), .slice A1 l1.length c1] w fun e w' => e = .returned (.int .i64 r1) ∧ IsS146 w0 w' g s0_0 r2 r3 ∧ Below w0.heap.size w0 w' ∧ KeepBut w w' g none := by
  have HR1 := Aside0.mk hr1
  have HC1 := Aside0.mk hc1
  clear hr1 hc1
  have HI0 := Aside0.mk hI
  have HK := Aside0.mk (KeepBut.refl w g none)
  have HL := Aside0.mk hB.size
  clear hI
  have HW0 := Aside0.mk hB.size
  have HB := Aside0.mk hB
  clear hB
  have H : ((spec_l1Below.f s0_0 s0_1 s0_2 (l1.length : Int)).bind fun bt287 => (if 0 ≤ bt287.1 then (if bt287.1 < (l1.length : Int) then (some (rd l1 bt287.1, bt287.2.1, bt287.2.2)) else (none)) else (none))) = some (r1, r2, r3) := h
  clear h
  replace H := Option.bind_eq_some_iff.mp H
  obtain ⟨⟨t287, t288, t289⟩, A30, H⟩ := H
  replace H : (if 0 ≤ t287 then (if t287 < (l1.length : Int) then (some (rd l1 t287, t288, t289)) else (none)) else (none)) = some (r1, r2, r3) := H
  have A3 := Aside0.mk A30
  clear A30
  by_cases c4 : 0 ≤ t287
  · rw [if_pos c4] at H
    have c4b0 : decide (0 ≤ t287) = true := decide_eq_true c4
    clear c4
    by_cases c5 : t287 < (l1.length : Int)
    · rw [if_pos c5] at H
      have c5b0 : decide (t287 < (l1.length : Int)) = true := decide_eq_true c5
      clear c5
      simp only [Option.some.injEq, Prod.mk.injEq] at H
      obtain ⟨rfl, rfl, rfl⟩ := H
      go_enter Try.func112, Try.ntmps112
      go_wp2_with (first | ((with_reducible refine gate_callee (f := 72) rfl ?_); refine goesL_ (some 9) rfl rfl Try.func72 (by kernel_rfl) rfl #[.pointer (some ⟨g, 0, none⟩), .int .i64 (l1.length : Int)] rfl arr_ ?_; (with_reducible refine (spec_l1Below.calls g s0_0 s0_1 s0_2 (l1.length : Int) t287 t288 t289 w0 _ ?side1 ?side2 A3.out).mono ?_); (case side1 => repeat (first | (with_reducible first | exact HI0.out | apply IsS146.alloc | apply IsS146.drewN | apply IsS146.drew | apply IsS146.set_1 | apply IsS146.set_2) | exact HI0.out)); (case side2 => repeat (first | (with_reducible first | exact HB.out | apply below_alloc | apply pw_below_drewN | apply below_drew1 | refine below_set ?_ (IsS146.ge HI0.out)) | exact HB.out)); rintro e w6 ⟨rfl, hi, hb, hk⟩; refine ⟨_, rfl, ?_⟩; have n0_ := Aside0.mk (KeepBut.trans (by repeat (first | (with_reducible first | exact HK.out | apply KeepBut.set_ | apply keep_drewN | apply keep_drew | apply keep_alloc) | exact HK.out)) hk (.inl rfl)); have n1_ := Aside0.mk (hb); have n2_ := Aside0.mk (hi); clear HK; clear HB; clear HI0; have HK := n0_; have HB := n1_; have HI0 := n2_; clear n0_ n1_ n2_; (try clear hb); (try clear hb2); (try clear hk); (try clear hi); have p290 : 0 ≤ (t287 : Int) := of_decide_eq_true (by first | (with_reducible assumption) | assumption); have q290 : t287 < (l1.length : Int) := of_decide_eq_true (by first | (with_reducible assumption) | assumption); obtain ⟨ad290, e290, hx290_0⟩ := Kd.at_int HR1.out t287 p290 q290; cases e290; replace hx290_0 := keep_cell HK.out hx290_0 (by first | (rw [add_block]; exact hf1 _ rfl (by omega)) | exact hf1 _ rfl (by omega) | exact hf1 ad290 rfl (by omega)); replace p290 := eq_true p290; replace q290 := eq_true q290))
      go_ret
      exact ⟨er_, by repeat (first | (with_reducible first | exact HI0.out | apply IsS146.alloc | apply IsS146.drewN | apply IsS146.drew | apply IsS146.set_1 | apply IsS146.set_2) | exact HI0.out), by repeat (first | (with_reducible first | exact HB.out | apply below_alloc | apply pw_below_drewN | apply below_drew1 | refine below_set ?_ (IsS146.ge HI0.out)) | exact HB.out), by repeat (first | (with_reducible first | exact HK.out | apply KeepBut.set_ | apply keep_drewN | apply keep_drew | apply keep_alloc) | exact HK.out)⟩
    · rw [if_neg c5] at H
      exact absurd H (by simp)
  · rw [if_neg c4] at H
    exact absurd H (by simp)
end Go.Proofs.Ytcgdnfaclbnflaa.P
