/- Texts of the seat's proofs, part 4: functions of the program told as plain functions, with their contracts, and what is shown of them. No condition. -/
import Derived.Test.YtjlmfnpgcmmdnaaUKFL
import Derived.Test.YtjlmfnpgcmmdnaaKFL1
import Derived.Test.YtjlmfnpgcmmdnaaKFL2
import Derived.Test.YtjlmfnpgcmmdnaaKFL3
set_option linter.unusedVariables false
set_option linter.unusedSimpArgs false
namespace Go.Proofs.Ytjlmfnpgcmmdnaa.P
open Go.RowKit Go.Proofs.YtjlmfnpgcmmdnaaW.PrintWords Go.Proofs.YtjlmfnpgcmmdnaaW.PrintLast Go.Proofs.YtjlmfnpgcmmdnaaW.PrintMore
attribute [local go_sem] max2_int min2_int max_two min_two max_three min_three max_four min_four
set_option linter.unusedVariables false
set_option linter.unusedSimpArgs false
mutual
def laws_FnLoad.j0 : Nat → List (S33) → Int → Int → Int → List (S43) → Bool → Option (Bool)
  | 0, _, _, _, _, _, _ => none
  | k + 1, x3, x4, x5, x6, x7, x43 => if x43 = true then (some false) else (if x6 < 0 then (some ((x7.length : Int) == 0)) else (laws_FnLoad.l0 k x3 x4 x5 x7 x6 0))
def laws_FnLoad.l0 : Nat → List (S33) → Int → Int → List (S43) → Int → Int → Option (Bool)
  | 0, _, _, _, _, _, _ => none
  | k + 1, x3, x4, x5, x7, x8, x9 => if x9 < (x7.length : Int) then (if 0 ≤ x9 then (if ((rd_T43 x7 x9).f0) ≥ ((rd_T43 x7 x9).f1) then (laws_FnLoad.j2 k x3 x4 x5 x7 (wrap64 ((wrap64 (x8 + ((rd_T43 x7 x9).f1))) - ((rd_T43 x7 x9).f0))) x9 true ((rd_T43 x7 x9).f0) ((rd_T43 x7 x9).f1)) else (if ((rd_T43 x7 x9).f0) < x4 then (laws_FnLoad.j2 k x3 x4 x5 x7 (wrap64 ((wrap64 (x8 + ((rd_T43 x7 x9).f1))) - ((rd_T43 x7 x9).f0))) x9 true ((rd_T43 x7 x9).f0) ((rd_T43 x7 x9).f1)) else (if ((rd_T43 x7 x9).f1) > x5 then (laws_FnLoad.j2 k x3 x4 x5 x7 (wrap64 ((wrap64 (x8 + ((rd_T43 x7 x9).f1))) - ((rd_T43 x7 x9).f0))) x9 true ((rd_T43 x7 x9).f0) ((rd_T43 x7 x9).f1)) else (if x9 > 0 then (if 0 ≤ (wrap64 (x9 - 1)) then (if (wrap64 (x9 - 1)) < (x7.length : Int) then (laws_FnLoad.j2 k x3 x4 x5 x7 (wrap64 ((wrap64 (x8 + ((rd_T43 x7 x9).f1))) - ((rd_T43 x7 x9).f0))) x9 (decide (((rd_T43 x7 (wrap64 (x9 - 1))).f1) ≥ ((rd_T43 x7 x9).f0))) ((rd_T43 x7 x9).f0) ((rd_T43 x7 x9).f1)) else (none)) else (none)) else (laws_FnLoad.j2 k x3 x4 x5 x7 (wrap64 ((wrap64 (x8 + ((rd_T43 x7 x9).f1))) - ((rd_T43 x7 x9).f0))) x9 false ((rd_T43 x7 x9).f0) ((rd_T43 x7 x9).f1)))))) else (none)) else (some (x8 == (wrap64 (x5 - x4))))
def laws_FnLoad.j2 : Nat → List (S33) → Int → Int → List (S43) → Int → Int → Bool → Int → Int → Option (Bool)
  | 0, _, _, _, _, _, _, _, _, _ => none
  | k + 1, x3, x4, x5, x7, x8, x9, x98, x384000, x384001 => if x98 = true then (some false) else (laws_FnLoad.l1 k x3 x4 x5 x7 x8 x9 0 x384000 x384001)
def laws_FnLoad.l1 : Nat → List (S33) → Int → Int → List (S43) → Int → Int → Int → Int → Int → Option (Bool)
  | 0, _, _, _, _, _, _, _, _, _ => none
  | k + 1, x3, x4, x5, x7, x8, x9, x11, x384000, x384001 => if x11 < (x3.length : Int) then (if 0 ≤ x11 then (if ((rd_T33 x3 x11).f3) < x384001 then (if x384000 < ((rd_T33 x3 x11).f4) then (some false) else (laws_FnLoad.l1 k x3 x4 x5 x7 x8 x9 (wrap64 (x11 + 1)) x384000 x384001)) else (laws_FnLoad.l1 k x3 x4 x5 x7 x8 x9 (wrap64 (x11 + 1)) x384000 x384001)) else (none)) else (laws_FnLoad.l0 k x3 x4 x5 x7 x8 (wrap64 (x9 + 1)))
end
def laws_FnLoad.f (k : Nat) (l0 : List Int) : Option (Bool) := (laws_big.f l0).bind fun t368 => (if t368 = true then (some true) else ((spec_DrawBusLoad.f k l0).bind fun bt369 => ((impl_BusLoad.f k bt369.1 bt369.2.1 bt369.2.2).bind fun t374 => ((impl_BusQuiet.f k bt369.1 bt369.2.1 bt369.2.2).bind fun t375 => ((spec_BusLoad.f k bt369.1 bt369.2.1 bt369.2.2).bind fun t378 => (if t374 = t378 then ((spec_BusQuiet.f k bt369.1 bt369.2.1 bt369.2.2).bind fun t379 => (laws_FnLoad.j0 k bt369.1 bt369.2.1 bt369.2.2 t374 t375 ((t375.length : Int) != (t379.length : Int)))) else (laws_FnLoad.j0 k bt369.1 bt369.2.1 bt369.2.2 t374 t375 true)))))))
set_option maxHeartbeats 8000000 in
set_option maxRecDepth 100000 in
theorem laws_FnLoad.calls (k : Nat) (A0 : Option Addr) (c0 : Nat) (l0 : List Int) (r : Bool) (w : World) (hr0 : Kd.C (Kd.int .u8) w A0 l0.length l0) (hc0 : l0.length ≤ c0) (hr_ : r = true) (h : laws_FnLoad.f k l0 = some r) :
    Calls Try.prog 4 #[.slice A0 l0.length c0] w fun e w' => e = .returned (.bool r) ∧ Below w.heap.size w w' := by
  have hu43 := Try.underlying43
  have HR0 := Aside0.mk hr0
  have HC0 := Aside0.mk hc0
  clear hr0 hc0
  have HB := Aside0.mk (Below.refl w.heap.size w)
  have H : ((laws_big.f l0).bind fun t368 => (if t368 = true then (some true) else ((spec_DrawBusLoad.f k l0).bind fun bt369 => ((impl_BusLoad.f k bt369.1 bt369.2.1 bt369.2.2).bind fun t374 => ((impl_BusQuiet.f k bt369.1 bt369.2.1 bt369.2.2).bind fun t375 => ((spec_BusLoad.f k bt369.1 bt369.2.1 bt369.2.2).bind fun t378 => (if t374 = t378 then ((spec_BusQuiet.f k bt369.1 bt369.2.1 bt369.2.2).bind fun t379 => (laws_FnLoad.j0 k bt369.1 bt369.2.1 bt369.2.2 t374 t375 ((t375.length : Int) != (t379.length : Int)))) else (laws_FnLoad.j0 k bt369.1 bt369.2.1 bt369.2.2 t374 t375 true)))))))) = some r := h
  clear h
  replace H := Option.bind_eq_some_iff.mp H
  obtain ⟨t368, A20, H⟩ := H
  replace H : (if t368 = true then (some true) else ((spec_DrawBusLoad.f k l0).bind fun bt369 => ((impl_BusLoad.f k bt369.1 bt369.2.1 bt369.2.2).bind fun t374 => ((impl_BusQuiet.f k bt369.1 bt369.2.1 bt369.2.2).bind fun t375 => ((spec_BusLoad.f k bt369.1 bt369.2.1 bt369.2.2).bind fun t378 => (if t374 = t378 then ((spec_BusQuiet.f k bt369.1 bt369.2.1 bt369.2.2).bind fun t379 => (laws_FnLoad.j0 k bt369.1 bt369.2.1 bt369.2.2 t374 t375 ((t375.length : Int) != (t379.length : Int)))) else (laws_FnLoad.j0 k bt369.1 bt369.2.1 bt369.2.2 t374 t375 true))))))) = some r := H
  have A2 := Aside0.mk A20
  clear A20
  by_cases c3 : t368 = true
  · subst c3
    have H1 : (some true) = some r := by rw [if_pos rfl] at H; exact H
    clear H
    have H := H1
    clear H1
    obtain rfl := Option.some.inj H
    go_enter Try.func4, Try.ntmps4
    go_wp2_with (first | (go_at_call 10; (with_reducible refine (laws_big.calls _ _ l0 true _ ?side1 ?side2 A2.out).mono ?_); (case side1 => repeat (first | exact HR0.out | (with_reducible refine Kd.C_alloc ?_ _) | (with_reducible refine Kd.C_drewN ?_ _) | (with_reducible refine Kd.C_drew ?_))); (case side2 => exact HC0.out); rintro e w' ⟨rfl, ⟨nd, rfl⟩⟩; (try first | exact ⟨rfl, _, World.drewN_drewN _ _ _⟩ | exact ⟨rfl, _, Eq.trans (World.drewN_drewN _ _ _) (congrArg (World.drewN _) (Nat.add_assoc _ _ _))⟩)))
    repeat (go_quiet (first | (go_at_call 10; (with_reducible refine (laws_big.calls _ _ l0 true _ ?side1 ?side2 A2.out).mono ?_); (case side1 => repeat (first | exact HR0.out | (with_reducible refine Kd.C_alloc ?_ _) | (with_reducible refine Kd.C_drewN ?_ _) | (with_reducible refine Kd.C_drew ?_))); (case side2 => exact HC0.out); rintro e w' ⟨rfl, ⟨nd, rfl⟩⟩; (try first | exact ⟨rfl, _, World.drewN_drewN _ _ _⟩ | exact ⟨rfl, _, Eq.trans (World.drewN_drewN _ _ _) (congrArg (World.drewN _) (Nat.add_assoc _ _ _))⟩))); try go_wp2_with (first | (go_at_call 10; (with_reducible refine (laws_big.calls _ _ l0 true _ ?side1 ?side2 A2.out).mono ?_); (case side1 => repeat (first | exact HR0.out | (with_reducible refine Kd.C_alloc ?_ _) | (with_reducible refine Kd.C_drewN ?_ _) | (with_reducible refine Kd.C_drew ?_))); (case side2 => exact HC0.out); rintro e w' ⟨rfl, ⟨nd, rfl⟩⟩; (try first | exact ⟨rfl, _, World.drewN_drewN _ _ _⟩ | exact ⟨rfl, _, Eq.trans (World.drewN_drewN _ _ _) (congrArg (World.drewN _) (Nat.add_assoc _ _ _))⟩))))
    go_ret
    exact ⟨er_, hb_ HB.out⟩
  · replace c3 := Bool.eq_false_iff.mpr c3
    subst c3
    have H1 : ((spec_DrawBusLoad.f k l0).bind fun bt369 => ((impl_BusLoad.f k bt369.1 bt369.2.1 bt369.2.2).bind fun t374 => ((impl_BusQuiet.f k bt369.1 bt369.2.1 bt369.2.2).bind fun t375 => ((spec_BusLoad.f k bt369.1 bt369.2.1 bt369.2.2).bind fun t378 => (if t374 = t378 then ((spec_BusQuiet.f k bt369.1 bt369.2.1 bt369.2.2).bind fun t379 => (laws_FnLoad.j0 k bt369.1 bt369.2.1 bt369.2.2 t374 t375 ((t375.length : Int) != (t379.length : Int)))) else (laws_FnLoad.j0 k bt369.1 bt369.2.1 bt369.2.2 t374 t375 true)))))) = some r := by rw [if_neg (show ¬ (false = true) by decide)] at H; exact H
    clear H
    have H := H1
    clear H1
    replace H := Option.bind_eq_some_iff.mp H
    obtain ⟨⟨t369, t370, t371⟩, A40, H⟩ := H
    replace H : ((impl_BusLoad.f k t369 t370 t371).bind fun t374 => ((impl_BusQuiet.f k t369 t370 t371).bind fun t375 => ((spec_BusLoad.f k t369 t370 t371).bind fun t378 => (if t374 = t378 then ((spec_BusQuiet.f k t369 t370 t371).bind fun t379 => (laws_FnLoad.j0 k t369 t370 t371 t374 t375 ((t375.length : Int) != (t379.length : Int)))) else (laws_FnLoad.j0 k t369 t370 t371 t374 t375 true))))) = some r := H
    have A4 := Aside0.mk A40
    clear A40
    replace H := Option.bind_eq_some_iff.mp H
    obtain ⟨t374, A50, H⟩ := H
    replace H : ((impl_BusQuiet.f k t369 t370 t371).bind fun t375 => ((spec_BusLoad.f k t369 t370 t371).bind fun t378 => (if t374 = t378 then ((spec_BusQuiet.f k t369 t370 t371).bind fun t379 => (laws_FnLoad.j0 k t369 t370 t371 t374 t375 ((t375.length : Int) != (t379.length : Int)))) else (laws_FnLoad.j0 k t369 t370 t371 t374 t375 true)))) = some r := H
    have A5 := Aside0.mk A50
    clear A50
    replace H := Option.bind_eq_some_iff.mp H
    obtain ⟨t375, A60, H⟩ := H
    replace H : ((spec_BusLoad.f k t369 t370 t371).bind fun t378 => (if t374 = t378 then ((spec_BusQuiet.f k t369 t370 t371).bind fun t379 => (laws_FnLoad.j0 k t369 t370 t371 t374 t375 ((t375.length : Int) != (t379.length : Int)))) else (laws_FnLoad.j0 k t369 t370 t371 t374 t375 true))) = some r := H
    have A6 := Aside0.mk A60
    clear A60
    have HC7 := Aside0.mk H
    clear H
    go_enter Try.func4, Try.ntmps4
    go_upto_region 6 with (first | (go_at_call 10; (with_reducible refine (laws_big.calls _ _ l0 false _ ?side1 ?side2 A2.out).mono ?_); (case side1 => repeat (first | exact HR0.out | (with_reducible refine Kd.C_alloc ?_ _) | (with_reducible refine Kd.C_drewN ?_ _) | (with_reducible refine Kd.C_drew ?_))); (case side2 => exact HC0.out); rintro e w' ⟨rfl, ⟨nd, rfl⟩⟩; (try first | exact ⟨rfl, _, World.drewN_drewN _ _ _⟩ | exact ⟨rfl, _, Eq.trans (World.drewN_drewN _ _ _) (congrArg (World.drewN _) (Nat.add_assoc _ _ _))⟩)) | (go_at_call 18; (with_reducible refine (spec_DrawBusLoad.calls k _ _ l0 t369 t370 t371 _ ?side1 ?side2 A4.out).mono ?_); (case side1 => repeat (first | exact HR0.out | (with_reducible refine Kd.C_alloc ?_ _) | (with_reducible refine Kd.C_drewN ?_ _) | (with_reducible refine Kd.C_drew ?_))); (case side2 => exact HC0.out); rintro e w8 ⟨v372, rfl, ho0, hb⟩; have n0_ := Aside0.mk (Kd.R_lower ho0 (below_size (hb_ HB.out))); have n1_ := Aside0.mk (below_step (hb_ HB.out) hb); clear HB; have HO373 := n0_; have HB := n1_; clear n0_ n1_; (try clear hb); (try clear hb2); (try clear hk); (try clear hi); (try clear ho0); obtain ⟨Ao9, co9, eo9⟩ := Kd.R_slice HO373.out; subst eo9) | (go_at_call 19; (with_reducible refine (impl_BusLoad.calls k _ _ t369 t370 t371 t374 _ ?side1 ?side2 A5.out).mono ?_); (case side1 => repeat (first | exact (Kd.R_reads' HO373.out).2.2 | (with_reducible refine Kd.C_alloc ?_ _) | (with_reducible refine Kd.C_drewN ?_ _) | (with_reducible refine Kd.C_drew ?_))); (case side2 => exact (Kd.R_reads' HO373.out).2.1); rintro e w10 ⟨rfl, hb⟩; have n0_ := Aside0.mk (Kd.R_below (by (with_reducible repeat (first | apply Kd.R_alloc | apply Kd.R_drewN | apply Kd.R_drew)); exact HO373.out) hb); have n1_ := Aside0.mk (below_step (hb_ HB.out) hb); clear HO373; clear HB; have HO373 := n0_; have HB := n1_; clear n0_ n1_; (try clear hb); (try clear hb2); (try clear hk); (try clear hi)) | (go_at_call 20; (with_reducible refine (impl_BusQuiet.calls k _ _ t369 t370 t371 t375 _ ?side1 ?side2 A6.out).mono ?_); (case side1 => repeat (first | exact (Kd.R_reads' HO373.out).2.2 | (with_reducible refine Kd.C_alloc ?_ _) | (with_reducible refine Kd.C_drewN ?_ _) | (with_reducible refine Kd.C_drew ?_))); (case side2 => exact (Kd.R_reads' HO373.out).2.1); rintro e w11 ⟨v376, rfl, ho0, hb⟩; have n0_ := Aside0.mk (Kd.R_below (by (with_reducible repeat (first | apply Kd.R_alloc | apply Kd.R_drewN | apply Kd.R_drew)); exact HO373.out) hb); have n1_ := Aside0.mk (Kd.R_lower ho0 (below_size (hb_ HB.out))); have n2_ := Aside0.mk (below_step (hb_ HB.out) hb); clear HO373; clear HB; have HO373 := n0_; have HO377 := n1_; have HB := n2_; clear n0_ n1_ n2_; (try clear hb); (try clear hb2); (try clear hk); (try clear hi); (try clear ho0)))
    repeat (go_quiet (first | (go_at_call 10; (with_reducible refine (laws_big.calls _ _ l0 false _ ?side1 ?side2 A2.out).mono ?_); (case side1 => repeat (first | exact HR0.out | (with_reducible refine Kd.C_alloc ?_ _) | (with_reducible refine Kd.C_drewN ?_ _) | (with_reducible refine Kd.C_drew ?_))); (case side2 => exact HC0.out); rintro e w' ⟨rfl, ⟨nd, rfl⟩⟩; (try first | exact ⟨rfl, _, World.drewN_drewN _ _ _⟩ | exact ⟨rfl, _, Eq.trans (World.drewN_drewN _ _ _) (congrArg (World.drewN _) (Nat.add_assoc _ _ _))⟩)) | (go_at_call 18; (with_reducible refine (spec_DrawBusLoad.calls k _ _ l0 t369 t370 t371 _ ?side1 ?side2 A4.out).mono ?_); (case side1 => repeat (first | exact HR0.out | (with_reducible refine Kd.C_alloc ?_ _) | (with_reducible refine Kd.C_drewN ?_ _) | (with_reducible refine Kd.C_drew ?_))); (case side2 => exact HC0.out); rintro e w8 ⟨v372, rfl, ho0, hb⟩; have n0_ := Aside0.mk (Kd.R_lower ho0 (below_size (hb_ HB.out))); have n1_ := Aside0.mk (below_step (hb_ HB.out) hb); clear HB; have HO373 := n0_; have HB := n1_; clear n0_ n1_; (try clear hb); (try clear hb2); (try clear hk); (try clear hi); (try clear ho0); obtain ⟨Ao9, co9, eo9⟩ := Kd.R_slice HO373.out; subst eo9) | (go_at_call 19; (with_reducible refine (impl_BusLoad.calls k _ _ t369 t370 t371 t374 _ ?side1 ?side2 A5.out).mono ?_); (case side1 => repeat (first | exact (Kd.R_reads' HO373.out).2.2 | (with_reducible refine Kd.C_alloc ?_ _) | (with_reducible refine Kd.C_drewN ?_ _) | (with_reducible refine Kd.C_drew ?_))); (case side2 => exact (Kd.R_reads' HO373.out).2.1); rintro e w10 ⟨rfl, hb⟩; have n0_ := Aside0.mk (Kd.R_below (by (with_reducible repeat (first | apply Kd.R_alloc | apply Kd.R_drewN | apply Kd.R_drew)); exact HO373.out) hb); have n1_ := Aside0.mk (below_step (hb_ HB.out) hb); clear HO373; clear HB; have HO373 := n0_; have HB := n1_; clear n0_ n1_; (try clear hb); (try clear hb2); (try clear hk); (try clear hi)) | (go_at_call 20; (with_reducible refine (impl_BusQuiet.calls k _ _ t369 t370 t371 t375 _ ?side1 ?side2 A6.out).mono ?_); (case side1 => repeat (first | exact (Kd.R_reads' HO373.out).2.2 | (with_reducible refine Kd.C_alloc ?_ _) | (with_reducible refine Kd.C_drewN ?_ _) | (with_reducible refine Kd.C_drew ?_))); (case side2 => exact (Kd.R_reads' HO373.out).2.1); rintro e w11 ⟨v376, rfl, ho0, hb⟩; have n0_ := Aside0.mk (Kd.R_below (by (with_reducible repeat (first | apply Kd.R_alloc | apply Kd.R_drewN | apply Kd.R_drew)); exact HO373.out) hb); have n1_ := Aside0.mk (Kd.R_lower ho0 (below_size (hb_ HB.out))); have n2_ := Aside0.mk (below_step (hb_ HB.out) hb); clear HO373; clear HB; have HO373 := n0_; have HO377 := n1_; have HB := n2_; clear n0_ n1_ n2_; (try clear hb); (try clear hb2); (try clear hk); (try clear hi); (try clear ho0))); go_upto_region 6 with (first | (go_at_call 10; (with_reducible refine (laws_big.calls _ _ l0 false _ ?side1 ?side2 A2.out).mono ?_); (case side1 => repeat (first | exact HR0.out | (with_reducible refine Kd.C_alloc ?_ _) | (with_reducible refine Kd.C_drewN ?_ _) | (with_reducible refine Kd.C_drew ?_))); (case side2 => exact HC0.out); rintro e w' ⟨rfl, ⟨nd, rfl⟩⟩; (try first | exact ⟨rfl, _, World.drewN_drewN _ _ _⟩ | exact ⟨rfl, _, Eq.trans (World.drewN_drewN _ _ _) (congrArg (World.drewN _) (Nat.add_assoc _ _ _))⟩)) | (go_at_call 18; (with_reducible refine (spec_DrawBusLoad.calls k _ _ l0 t369 t370 t371 _ ?side1 ?side2 A4.out).mono ?_); (case side1 => repeat (first | exact HR0.out | (with_reducible refine Kd.C_alloc ?_ _) | (with_reducible refine Kd.C_drewN ?_ _) | (with_reducible refine Kd.C_drew ?_))); (case side2 => exact HC0.out); rintro e w8 ⟨v372, rfl, ho0, hb⟩; have n0_ := Aside0.mk (Kd.R_lower ho0 (below_size (hb_ HB.out))); have n1_ := Aside0.mk (below_step (hb_ HB.out) hb); clear HB; have HO373 := n0_; have HB := n1_; clear n0_ n1_; (try clear hb); (try clear hb2); (try clear hk); (try clear hi); (try clear ho0); obtain ⟨Ao9, co9, eo9⟩ := Kd.R_slice HO373.out; subst eo9) | (go_at_call 19; (with_reducible refine (impl_BusLoad.calls k _ _ t369 t370 t371 t374 _ ?side1 ?side2 A5.out).mono ?_); (case side1 => repeat (first | exact (Kd.R_reads' HO373.out).2.2 | (with_reducible refine Kd.C_alloc ?_ _) | (with_reducible refine Kd.C_drewN ?_ _) | (with_reducible refine Kd.C_drew ?_))); (case side2 => exact (Kd.R_reads' HO373.out).2.1); rintro e w10 ⟨rfl, hb⟩; have n0_ := Aside0.mk (Kd.R_below (by (with_reducible repeat (first | apply Kd.R_alloc | apply Kd.R_drewN | apply Kd.R_drew)); exact HO373.out) hb); have n1_ := Aside0.mk (below_step (hb_ HB.out) hb); clear HO373; clear HB; have HO373 := n0_; have HB := n1_; clear n0_ n1_; (try clear hb); (try clear hb2); (try clear hk); (try clear hi)) | (go_at_call 20; (with_reducible refine (impl_BusQuiet.calls k _ _ t369 t370 t371 t375 _ ?side1 ?side2 A6.out).mono ?_); (case side1 => repeat (first | exact (Kd.R_reads' HO373.out).2.2 | (with_reducible refine Kd.C_alloc ?_ _) | (with_reducible refine Kd.C_drewN ?_ _) | (with_reducible refine Kd.C_drew ?_))); (case side2 => exact (Kd.R_reads' HO373.out).2.1); rintro e w11 ⟨v376, rfl, ho0, hb⟩; have n0_ := Aside0.mk (Kd.R_below (by (with_reducible repeat (first | apply Kd.R_alloc | apply Kd.R_drewN | apply Kd.R_drew)); exact HO373.out) hb); have n1_ := Aside0.mk (Kd.R_lower ho0 (below_size (hb_ HB.out))); have n2_ := Aside0.mk (below_step (hb_ HB.out) hb); clear HO373; clear HB; have HO373 := n0_; have HO377 := n1_; have HB := n2_; clear n0_ n1_ n2_; (try clear hb); (try clear hb2); (try clear hk); (try clear hi); (try clear ho0))))
    (try simp only [Act.put, List.setIfInBounds_toArray, List.set_cons_zero, List.set_cons_succ])
    go_cut [43] (fun v43 wc => ∃ (kq : Nat) (x43_6 : Bool), v43 = .bool x43_6 ∧ Aside0 (laws_FnLoad.j0 kq t369 t370 t371 t374 t375 x43_6 = some r) ∧ Aside0 (kq ≤ k) ∧ Aside0 (Kd.R k33 33 wc w.heap.size (fun _ => True) (.slice Ao9 t369.length co9) t369) ∧ Aside0 (Kd.R k43 43 wc w.heap.size (fun _ => True) v376 t375) ∧ Aside0 (Below w.heap.size w wc))
    case first =>
      have H := HC7.out
      clear HC7
      replace H := Option.bind_eq_some_iff.mp H
      obtain ⟨t378, A120, H⟩ := H
      replace H : (if t374 = t378 then ((spec_BusQuiet.f k t369 t370 t371).bind fun t379 => (laws_FnLoad.j0 k t369 t370 t371 t374 t375 ((t375.length : Int) != (t379.length : Int)))) else (laws_FnLoad.j0 k t369 t370 t371 t374 t375 true)) = some r := H
      have A12 := Aside0.mk A120
      clear A120
      by_cases c13 : t374 = t378
      · rw [if_pos c13] at H
        have c13b0 : (t374 == t378) = true := beq_iff_eq.mpr c13
        have c13b1 : (t374 != t378) = false := bne_eq_false_iff_eq.mpr c13
        clear c13
        (first | rw [c13b0] | (simp only [i64_w, i32_w]; rw [c13b0]) | skip)
        replace H := Option.bind_eq_some_iff.mp H
        obtain ⟨t379, A140, H⟩ := H
        replace H : (laws_FnLoad.j0 k t369 t370 t371 t374 t375 ((t375.length : Int) != (t379.length : Int))) = some r := H
        have A14 := Aside0.mk A140
        clear A140
        have H' := Aside0.mk H
        clear H
        go_wp2_with (first | (go_at_call 21; (with_reducible refine (spec_BusLoad.calls k _ _ t369 t370 t371 t378 _ ?side1 ?side2 A12.out).mono ?_); (case side1 => repeat (first | exact (Kd.R_reads' HO373.out).2.2 | (with_reducible refine Kd.C_alloc ?_ _) | (with_reducible refine Kd.C_drewN ?_ _) | (with_reducible refine Kd.C_drew ?_))); (case side2 => exact (Kd.R_reads' HO373.out).2.1); rintro e w15 ⟨rfl, hb⟩; have n0_ := Aside0.mk (Kd.R_below (by (with_reducible repeat (first | apply Kd.R_alloc | apply Kd.R_drewN | apply Kd.R_drew)); exact HO373.out) hb); have n1_ := Aside0.mk (Kd.R_below (by (with_reducible repeat (first | apply Kd.R_alloc | apply Kd.R_drewN | apply Kd.R_drew)); exact HO377.out) hb); have n2_ := Aside0.mk (below_step (hb_ HB.out) hb); clear HO373; clear HO377; clear HB; have HO373 := n0_; have HO377 := n1_; have HB := n2_; clear n0_ n1_ n2_; (try clear hb); (try clear hb2); (try clear hk); (try clear hi); obtain ⟨Ao16, co16, eo16⟩ := Kd.R_slice HO377.out; subst eo16) | (go_at_call 22; (with_reducible refine (spec_BusQuiet.calls k _ _ t369 t370 t371 t379 _ ?side1 ?side2 A14.out).mono ?_); (case side1 => repeat (first | exact (Kd.R_reads' HO373.out).2.2 | (with_reducible refine Kd.C_alloc ?_ _) | (with_reducible refine Kd.C_drewN ?_ _) | (with_reducible refine Kd.C_drew ?_))); (case side2 => exact (Kd.R_reads' HO373.out).2.1); rintro e w17 ⟨v380, rfl, ho0, hb⟩; have n0_ := Aside0.mk (Kd.R_below (by (with_reducible repeat (first | apply Kd.R_alloc | apply Kd.R_drewN | apply Kd.R_drew)); exact HO373.out) hb); have n1_ := Aside0.mk (Kd.R_elder' (by (with_reducible repeat (first | apply Kd.R_alloc | apply Kd.R_drewN | apply Kd.R_drew)); exact HO377.out) (Kd.R_base ho0) hb); have n2_ := Aside0.mk (Kd.R_lower (Kd.R_new' ho0 (Kd.R_lt (by (with_reducible repeat (first | apply Kd.R_alloc | apply Kd.R_drewN | apply Kd.R_drew)); exact HO377.out))) (below_size (hb_ HB.out))); have n3_ := Aside0.mk (below_step (hb_ HB.out) hb); clear HO373; clear HO377; clear HB; have HO373 := n0_; have HO377 := n1_; have HO381 := n2_; have HB := n3_; clear n0_ n1_ n2_ n3_; (try clear hb); (try clear hb2); (try clear hk); (try clear hi); (try clear ho0); obtain ⟨Ao18, co18, eo18⟩ := Kd.R_slice HO381.out; subst eo18))
        repeat (go_quiet (first | (go_at_call 21; (with_reducible refine (spec_BusLoad.calls k _ _ t369 t370 t371 t378 _ ?side1 ?side2 A12.out).mono ?_); (case side1 => repeat (first | exact (Kd.R_reads' HO373.out).2.2 | (with_reducible refine Kd.C_alloc ?_ _) | (with_reducible refine Kd.C_drewN ?_ _) | (with_reducible refine Kd.C_drew ?_))); (case side2 => exact (Kd.R_reads' HO373.out).2.1); rintro e w15 ⟨rfl, hb⟩; have n0_ := Aside0.mk (Kd.R_below (by (with_reducible repeat (first | apply Kd.R_alloc | apply Kd.R_drewN | apply Kd.R_drew)); exact HO373.out) hb); have n1_ := Aside0.mk (Kd.R_below (by (with_reducible repeat (first | apply Kd.R_alloc | apply Kd.R_drewN | apply Kd.R_drew)); exact HO377.out) hb); have n2_ := Aside0.mk (below_step (hb_ HB.out) hb); clear HO373; clear HO377; clear HB; have HO373 := n0_; have HO377 := n1_; have HB := n2_; clear n0_ n1_ n2_; (try clear hb); (try clear hb2); (try clear hk); (try clear hi); obtain ⟨Ao16, co16, eo16⟩ := Kd.R_slice HO377.out; subst eo16) | (go_at_call 22; (with_reducible refine (spec_BusQuiet.calls k _ _ t369 t370 t371 t379 _ ?side1 ?side2 A14.out).mono ?_); (case side1 => repeat (first | exact (Kd.R_reads' HO373.out).2.2 | (with_reducible refine Kd.C_alloc ?_ _) | (with_reducible refine Kd.C_drewN ?_ _) | (with_reducible refine Kd.C_drew ?_))); (case side2 => exact (Kd.R_reads' HO373.out).2.1); rintro e w17 ⟨v380, rfl, ho0, hb⟩; have n0_ := Aside0.mk (Kd.R_below (by (with_reducible repeat (first | apply Kd.R_alloc | apply Kd.R_drewN | apply Kd.R_drew)); exact HO373.out) hb); have n1_ := Aside0.mk (Kd.R_elder' (by (with_reducible repeat (first | apply Kd.R_alloc | apply Kd.R_drewN | apply Kd.R_drew)); exact HO377.out) (Kd.R_base ho0) hb); have n2_ := Aside0.mk (Kd.R_lower (Kd.R_new' ho0 (Kd.R_lt (by (with_reducible repeat (first | apply Kd.R_alloc | apply Kd.R_drewN | apply Kd.R_drew)); exact HO377.out))) (below_size (hb_ HB.out))); have n3_ := Aside0.mk (below_step (hb_ HB.out) hb); clear HO373; clear HO377; clear HB; have HO373 := n0_; have HO377 := n1_; have HO381 := n2_; have HB := n3_; clear n0_ n1_ n2_ n3_; (try clear hb); (try clear hb2); (try clear hk); (try clear hi); (try clear ho0); obtain ⟨Ao18, co18, eo18⟩ := Kd.R_slice HO381.out; subst eo18)); try go_wp2_with (first | (go_at_call 21; (with_reducible refine (spec_BusLoad.calls k _ _ t369 t370 t371 t378 _ ?side1 ?side2 A12.out).mono ?_); (case side1 => repeat (first | exact (Kd.R_reads' HO373.out).2.2 | (with_reducible refine Kd.C_alloc ?_ _) | (with_reducible refine Kd.C_drewN ?_ _) | (with_reducible refine Kd.C_drew ?_))); (case side2 => exact (Kd.R_reads' HO373.out).2.1); rintro e w15 ⟨rfl, hb⟩; have n0_ := Aside0.mk (Kd.R_below (by (with_reducible repeat (first | apply Kd.R_alloc | apply Kd.R_drewN | apply Kd.R_drew)); exact HO373.out) hb); have n1_ := Aside0.mk (Kd.R_below (by (with_reducible repeat (first | apply Kd.R_alloc | apply Kd.R_drewN | apply Kd.R_drew)); exact HO377.out) hb); have n2_ := Aside0.mk (below_step (hb_ HB.out) hb); clear HO373; clear HO377; clear HB; have HO373 := n0_; have HO377 := n1_; have HB := n2_; clear n0_ n1_ n2_; (try clear hb); (try clear hb2); (try clear hk); (try clear hi); obtain ⟨Ao16, co16, eo16⟩ := Kd.R_slice HO377.out; subst eo16) | (go_at_call 22; (with_reducible refine (spec_BusQuiet.calls k _ _ t369 t370 t371 t379 _ ?side1 ?side2 A14.out).mono ?_); (case side1 => repeat (first | exact (Kd.R_reads' HO373.out).2.2 | (with_reducible refine Kd.C_alloc ?_ _) | (with_reducible refine Kd.C_drewN ?_ _) | (with_reducible refine Kd.C_drew ?_))); (case side2 => exact (Kd.R_reads' HO373.out).2.1); rintro e w17 ⟨v380, rfl, ho0, hb⟩; have n0_ := Aside0.mk (Kd.R_below (by (with_reducible repeat (first | apply Kd.R_alloc | apply Kd.R_drewN | apply Kd.R_drew)); exact HO373.out) hb); have n1_ := Aside0.mk (Kd.R_elder' (by (with_reducible repeat (first | apply Kd.R_alloc | apply Kd.R_drewN | apply Kd.R_drew)); exact HO377.out) (Kd.R_base ho0) hb); have n2_ := Aside0.mk (Kd.R_lower (Kd.R_new' ho0 (Kd.R_lt (by (with_reducible repeat (first | apply Kd.R_alloc | apply Kd.R_drewN | apply Kd.R_drew)); exact HO377.out))) (below_size (hb_ HB.out))); have n3_ := Aside0.mk (below_step (hb_ HB.out) hb); clear HO373; clear HO377; clear HB; have HO373 := n0_; have HO377 := n1_; have HO381 := n2_; have HB := n3_; clear n0_ n1_ n2_ n3_; (try clear hb); (try clear hb2); (try clear hk); (try clear hi); (try clear ho0); obtain ⟨Ao18, co18, eo18⟩ := Kd.R_slice HO381.out; subst eo18)))
        go_meet
        case rel => exact ⟨_, (((t375.length : Int) != (t379.length : Int))), (by first | rfl | (simp; done) | (simp [*]; done)), H', ⟨by first | omega | exact Nat.le_refl _⟩, ⟨by (with_reducible repeat (first | apply Kd.R_alloc | apply Kd.R_drewN | apply Kd.R_drew)); exact HO373.out⟩, ⟨by (with_reducible repeat (first | apply Kd.R_alloc | apply Kd.R_drewN | apply Kd.R_drew)); exact Kd.R_mono HO377.out (fun _ hk => trivial)⟩, ⟨hb_ HB.out⟩⟩
      · rw [if_neg c13] at H
        have c13b0 : (t374 == t378) = false := beq_eq_false_iff_ne.mpr c13
        have c13b1 : (t374 != t378) = true := bne_iff_ne.mpr c13
        (first | rw [c13b0] | (simp only [i64_w, i32_w]; rw [c13b0]) | skip)
        have H' := Aside0.mk H
        clear H
        go_wp2_with (first | (go_at_call 21; (with_reducible refine (spec_BusLoad.calls k _ _ t369 t370 t371 t378 _ ?side1 ?side2 A12.out).mono ?_); (case side1 => repeat (first | exact (Kd.R_reads' HO373.out).2.2 | (with_reducible refine Kd.C_alloc ?_ _) | (with_reducible refine Kd.C_drewN ?_ _) | (with_reducible refine Kd.C_drew ?_))); (case side2 => exact (Kd.R_reads' HO373.out).2.1); rintro e w19 ⟨rfl, hb⟩; have n0_ := Aside0.mk (Kd.R_below (by (with_reducible repeat (first | apply Kd.R_alloc | apply Kd.R_drewN | apply Kd.R_drew)); exact HO373.out) hb); have n1_ := Aside0.mk (Kd.R_below (by (with_reducible repeat (first | apply Kd.R_alloc | apply Kd.R_drewN | apply Kd.R_drew)); exact HO377.out) hb); have n2_ := Aside0.mk (below_step (hb_ HB.out) hb); clear HO373; clear HO377; clear HB; have HO373 := n0_; have HO377 := n1_; have HB := n2_; clear n0_ n1_ n2_; (try clear hb); (try clear hb2); (try clear hk); (try clear hi)))
        repeat (go_quiet (first | (go_at_call 21; (with_reducible refine (spec_BusLoad.calls k _ _ t369 t370 t371 t378 _ ?side1 ?side2 A12.out).mono ?_); (case side1 => repeat (first | exact (Kd.R_reads' HO373.out).2.2 | (with_reducible refine Kd.C_alloc ?_ _) | (with_reducible refine Kd.C_drewN ?_ _) | (with_reducible refine Kd.C_drew ?_))); (case side2 => exact (Kd.R_reads' HO373.out).2.1); rintro e w19 ⟨rfl, hb⟩; have n0_ := Aside0.mk (Kd.R_below (by (with_reducible repeat (first | apply Kd.R_alloc | apply Kd.R_drewN | apply Kd.R_drew)); exact HO373.out) hb); have n1_ := Aside0.mk (Kd.R_below (by (with_reducible repeat (first | apply Kd.R_alloc | apply Kd.R_drewN | apply Kd.R_drew)); exact HO377.out) hb); have n2_ := Aside0.mk (below_step (hb_ HB.out) hb); clear HO373; clear HO377; clear HB; have HO373 := n0_; have HO377 := n1_; have HB := n2_; clear n0_ n1_ n2_; (try clear hb); (try clear hb2); (try clear hk); (try clear hi))); try go_wp2_with (first | (go_at_call 21; (with_reducible refine (spec_BusLoad.calls k _ _ t369 t370 t371 t378 _ ?side1 ?side2 A12.out).mono ?_); (case side1 => repeat (first | exact (Kd.R_reads' HO373.out).2.2 | (with_reducible refine Kd.C_alloc ?_ _) | (with_reducible refine Kd.C_drewN ?_ _) | (with_reducible refine Kd.C_drew ?_))); (case side2 => exact (Kd.R_reads' HO373.out).2.1); rintro e w19 ⟨rfl, hb⟩; have n0_ := Aside0.mk (Kd.R_below (by (with_reducible repeat (first | apply Kd.R_alloc | apply Kd.R_drewN | apply Kd.R_drew)); exact HO373.out) hb); have n1_ := Aside0.mk (Kd.R_below (by (with_reducible repeat (first | apply Kd.R_alloc | apply Kd.R_drewN | apply Kd.R_drew)); exact HO377.out) hb); have n2_ := Aside0.mk (below_step (hb_ HB.out) hb); clear HO373; clear HO377; clear HB; have HO373 := n0_; have HO377 := n1_; have HB := n2_; clear n0_ n1_ n2_; (try clear hb); (try clear hb2); (try clear hk); (try clear hi))))
        go_meet
        case rel => exact ⟨_, (true), (by first | rfl | (simp; done) | (simp [*]; done)), H', ⟨by first | omega | exact Nat.le_refl _⟩, ⟨by (with_reducible repeat (first | apply Kd.R_alloc | apply Kd.R_drewN | apply Kd.R_drew)); exact HO373.out⟩, ⟨by (with_reducible repeat (first | apply Kd.R_alloc | apply Kd.R_drewN | apply Kd.R_drew)); exact HO377.out⟩, ⟨hb_ HB.out⟩⟩
    case rest =>
      clear HC7
      try clear c1
      try clear p2
      try clear c3
      try clear c4
      try clear c13
      try clear c13b0
      try clear c13b1
      obtain ⟨kq, x43_6, rfl, HA, HJ6, HO_3, HO_7, HB⟩ := hcut
      cases kq with
      | zero => exact absurd HA.out (by simp [laws_FnLoad.j0])
      | succ kj6 =>
        have H := HA.out
        clear HA
        simp only [laws_FnLoad.j0] at H
        by_cases c20 : x43_6 = true
        · subst c20
          have H1 : (some false) = some r := by rw [if_pos rfl] at H; exact H
          clear H
          have H := H1
          clear H1
          obtain rfl := Option.some.inj H
          exact absurd hr_ (by decide)
        · replace c20 := Bool.eq_false_iff.mpr c20
          subst c20
          have H1 : (if t374 < 0 then (some ((t375.length : Int) == 0)) else (laws_FnLoad.l0 kj6 t369 t370 t371 t375 t374 0)) = some r := by rw [if_neg (show ¬ (false = true) by decide)] at H; exact H
          clear H
          have H := H1
          clear H1
          by_cases c21 : t374 < 0
          · rw [if_pos c21] at H
            have c21b0 : decide (t374 < 0) = true := decide_eq_true c21
            clear c21
            obtain rfl := Option.some.inj H
            obtain ⟨Ao22, co22, eo22⟩ := Kd.R_slice HO_7.out
            subst eo22
            go_wp2
            repeat (go_quiet (fail); try go_wp2)
            go_ret
            exact ⟨er_, hb_ HB.out⟩
          · rw [if_neg c21] at H
            have c21b0 : decide (t374 < 0) = false := decide_eq_false c21
            clear c21
            have H' := Aside0.mk H
            clear H
            go_wp2
            repeat (go_quiet (fail); try go_wp2)
            go_loopg [8, 9] kj6 (fun kq v8 v9 w' => ∃ (x8_2 : Int) (x9_2 : Int), v8 = .int .i64 x8_2 ∧ v9 = .int .i64 x9_2 ∧ Aside0 (laws_FnLoad.l0 kq t369 t370 t371 t375 x8_2 x9_2 = some r) ∧ Aside0 (kq ≤ kj6) ∧ Aside0 (Kd.R k33 33 w' w.heap.size (fun _ => True) (.slice Ao9 t369.length co9) t369) ∧ Aside0 (Kd.R k43 43 w' w.heap.size (fun _ => True) v376 t375) ∧ Aside0 (Below w.heap.size w w'))
            case atStart => exact ⟨(t374), (0), (by first | rfl | (simp; done) | (simp [*]; done)), (by first | rfl | (simp; done) | (simp [*]; done)), H', ⟨Nat.le_refl _⟩, ⟨by (with_reducible repeat (first | apply Kd.R_alloc | apply Kd.R_drewN | apply Kd.R_drew)); exact HO_3.out⟩, ⟨by (with_reducible repeat (first | apply Kd.R_alloc | apply Kd.R_drewN | apply Kd.R_drew)); exact HO_7.out⟩, ⟨hb_ HB.out⟩⟩
            case round =>
              clear H'
              try clear c1
              try clear c2
              try clear p2
              try clear c3
              try clear c4
              try clear c13
              try clear c13b0
              try clear c13b1
              try clear c20
              try clear c21
              try clear c21b0
              try clear p2
              obtain ⟨x8_2, x9_2, rfl, rfl, HA, HK2, HO_3, HO_7, HB⟩ := hrel
              cases gk with
              | zero => exact absurd HA.out (by simp [laws_FnLoad.l0])
              | succ k2 =>
                have H := HA.out
                clear HA
                simp only [laws_FnLoad.l0] at H
                by_cases c23 : x9_2 < (t375.length : Int)
                · rw [if_pos c23] at H
                  have c23b0 : decide (x9_2 < (t375.length : Int)) = true := decide_eq_true c23
                  clear c23
                  by_cases c24 : 0 ≤ x9_2
                  · rw [if_pos c24] at H
                    have c24b0 : decide (0 ≤ x9_2) = true := decide_eq_true c24
                    clear c24
                    have HC25 := Aside0.mk H
                    clear H
                    obtain ⟨Ao26, co26, eo26⟩ := Kd.R_slice HO_7.out
                    subst eo26
                    have p382 : 0 ≤ (x9_2 : Int) := of_decide_eq_true (by first | (with_reducible assumption) | assumption)
                    have q382 : x9_2 < (t375.length : Int) := of_decide_eq_true (by first | (with_reducible assumption) | assumption)
                    obtain ⟨ad382, e382, hx382_0, hx382_1⟩ := at_T43 (Kd.R_reads' HO_7.out).2.2 x9_2 p382 q382
                    cases e382
                    replace p382 := eq_true p382
                    replace q382 := eq_true q382
                    go_upto_region 16 with (first | ((with_reducible refine gate_dst (N := 10) rfl ?_); (try (refine gate_guard (by rfl) ?_; dsimp only)); refine box_event ?hg (N := 10) ?hd (cs := #[.int .i64 0, .int .i64 0]) (t := 43) ?hr ?_; (case hd => rfl); (case hg => rfl); (case hr => first | (go_simp; done) | (go_simp; rfl)); intro gb383 hg w27 hbox hb; have n0_ := Aside0.mk (Kd.R_below (by (with_reducible repeat (first | apply Kd.R_alloc | apply Kd.R_drewN | apply Kd.R_drew)); exact HO_3.out) hb); have n1_ := Aside0.mk (Kd.R_below (Kd.R_elderB (by (with_reducible repeat (first | apply Kd.R_alloc | apply Kd.R_drewN | apply Kd.R_drew)); exact HO_7.out) gb383 (Nat.le_of_eq hg.symm)) hb); have n2_ := Aside0.mk (below_step (hb_ HB.out) hb); have n3_ := Aside0.mk (hbox); have n4_ := Aside0.mk ((by rw [hg]; exact (below_size (hb_ HB.out)) : w.heap.size ≤ gb383)); have n5_ := Aside0.mk ((by rw [hg]; exact (below_size (hb_ HB.out)) : w.heap.size ≤ gb383)); clear HO_3; clear HO_7; clear HB; have HO_3 := n0_; have HO_7 := n1_; have HB := n2_; have BK383 := n3_; have GW383 := n4_; have GE383 := n5_; clear n0_ n1_ n2_ n3_ n4_ n5_; clear hb hbox hg; have hcz28_0 := bc_ BK383.out 0 (.int .i64 0) rfl; have hcz28_1 := bc_ BK383.out 1 (.int .i64 0) rfl; have hfz28_0 := blk_frozen BK383.out 0; have hfz28_1 := blk_frozen BK383.out 1))
                    repeat (go_quiet (first | ((with_reducible refine gate_dst (N := 10) rfl ?_); (try (refine gate_guard (by rfl) ?_; dsimp only)); refine box_event ?hg (N := 10) ?hd (cs := #[.int .i64 0, .int .i64 0]) (t := 43) ?hr ?_; (case hd => rfl); (case hg => rfl); (case hr => first | (go_simp; done) | (go_simp; rfl)); intro gb383 hg w27 hbox hb; have n0_ := Aside0.mk (Kd.R_below (by (with_reducible repeat (first | apply Kd.R_alloc | apply Kd.R_drewN | apply Kd.R_drew)); exact HO_3.out) hb); have n1_ := Aside0.mk (Kd.R_below (Kd.R_elderB (by (with_reducible repeat (first | apply Kd.R_alloc | apply Kd.R_drewN | apply Kd.R_drew)); exact HO_7.out) gb383 (Nat.le_of_eq hg.symm)) hb); have n2_ := Aside0.mk (below_step (hb_ HB.out) hb); have n3_ := Aside0.mk (hbox); have n4_ := Aside0.mk ((by rw [hg]; exact (below_size (hb_ HB.out)) : w.heap.size ≤ gb383)); have n5_ := Aside0.mk ((by rw [hg]; exact (below_size (hb_ HB.out)) : w.heap.size ≤ gb383)); clear HO_3; clear HO_7; clear HB; have HO_3 := n0_; have HO_7 := n1_; have HB := n2_; have BK383 := n3_; have GW383 := n4_; have GE383 := n5_; clear n0_ n1_ n2_ n3_ n4_ n5_; clear hb hbox hg; have hcz28_0 := bc_ BK383.out 0 (.int .i64 0) rfl; have hcz28_1 := bc_ BK383.out 1 (.int .i64 0) rfl; have hfz28_0 := blk_frozen BK383.out 0; have hfz28_1 := blk_frozen BK383.out 1)); go_upto_region 16 with (first | ((with_reducible refine gate_dst (N := 10) rfl ?_); (try (refine gate_guard (by rfl) ?_; dsimp only)); refine box_event ?hg (N := 10) ?hd (cs := #[.int .i64 0, .int .i64 0]) (t := 43) ?hr ?_; (case hd => rfl); (case hg => rfl); (case hr => first | (go_simp; done) | (go_simp; rfl)); intro gb383 hg w27 hbox hb; have n0_ := Aside0.mk (Kd.R_below (by (with_reducible repeat (first | apply Kd.R_alloc | apply Kd.R_drewN | apply Kd.R_drew)); exact HO_3.out) hb); have n1_ := Aside0.mk (Kd.R_below (Kd.R_elderB (by (with_reducible repeat (first | apply Kd.R_alloc | apply Kd.R_drewN | apply Kd.R_drew)); exact HO_7.out) gb383 (Nat.le_of_eq hg.symm)) hb); have n2_ := Aside0.mk (below_step (hb_ HB.out) hb); have n3_ := Aside0.mk (hbox); have n4_ := Aside0.mk ((by rw [hg]; exact (below_size (hb_ HB.out)) : w.heap.size ≤ gb383)); have n5_ := Aside0.mk ((by rw [hg]; exact (below_size (hb_ HB.out)) : w.heap.size ≤ gb383)); clear HO_3; clear HO_7; clear HB; have HO_3 := n0_; have HO_7 := n1_; have HB := n2_; have BK383 := n3_; have GW383 := n4_; have GE383 := n5_; clear n0_ n1_ n2_ n3_ n4_ n5_; clear hb hbox hg; have hcz28_0 := bc_ BK383.out 0 (.int .i64 0) rfl; have hcz28_1 := bc_ BK383.out 1 (.int .i64 0) rfl; have hfz28_0 := blk_frozen BK383.out 0; have hfz28_1 := blk_frozen BK383.out 1)))
                    (try simp only [Act.put, List.setIfInBounds_toArray, List.set_cons_zero, List.set_cons_succ])
                    go_cut [98] (fun v98 wc => ∃ (kq : Nat) (x98_24 : Bool), v98 = .bool x98_24 ∧ Aside0 (laws_FnLoad.j2 kq t369 t370 t371 t375 (wrap64 ((wrap64 (x8_2 + ((rd_T43 t375 x9_2).f1))) - ((rd_T43 t375 x9_2).f0))) x9_2 x98_24 ((rd_T43 t375 x9_2).f0) ((rd_T43 t375 x9_2).f1) = some r) ∧ Aside0 (kq ≤ k2) ∧ Aside0 (Kd.R k33 33 wc w.heap.size (fun _ => True) (.slice Ao9 t369.length co9) t369) ∧ Aside0 (Kd.R k43 43 wc w.heap.size (fun k_ => k_ ≠ gb383) (.slice (some ad382) t375.length co26) t375) ∧ Aside0 (wc.heap[gb383]? = some (.cells #[.int .i64 ((rd_T43 t375 x9_2).f0), .int .i64 ((rd_T43 t375 x9_2).f1)] 43 (0, 0))) ∧ Aside0 (Below w.heap.size w wc))
                    case first =>
                      have H := HC25.out
                      clear HC25
                      by_cases c29 : ((rd_T43 t375 x9_2).f0) ≥ ((rd_T43 t375 x9_2).f1)
                      · rw [if_pos c29] at H
                        have c29b0 : decide (((rd_T43 t375 x9_2).f1) ≤ ((rd_T43 t375 x9_2).f0)) = true := decide_eq_true c29
                        clear c29
                        (first | rw [c29b0] | (simp only [i64_w, i32_w]; rw [c29b0]) | skip)
                        have H' := Aside0.mk H
                        clear H
                        have hcz30_0 := bc_ BK383.out 0 (.int .i64 0) rfl
                        have hcz30_1 := bc_ BK383.out 1 (.int .i64 0) rfl
                        have hfz30_0 := blk_frozen BK383.out 0
                        have hfz30_1 := blk_frozen BK383.out 1
                        go_wp2
                        repeat (go_quiet (fail); try go_wp2)
                        go_meet
                        case rel => exact ⟨_, (true), (by first | rfl | (simp; done) | (simp [*]; done)), H', ⟨by have := HJ6.out; have := HK2.out; first | omega | exact Nat.le_refl _⟩, ⟨by (with_reducible repeat (first | apply Kd.R_alloc | apply Kd.R_drewN | apply Kd.R_drew)); exact Kd.R_mono (Kd.R_far (p := ⟨gb383, 1, none⟩) (Kd.R_far (p := ⟨gb383, 0, none⟩) (Kd.R_types HO_3.out BK383.out (by decide)) (fun _ hk => hk.2) (.int .i64 ((rd_T43 t375 x9_2).f0))) (fun _ hk => hk.2) (.int .i64 ((rd_T43 t375 x9_2).f1))) (fun _ hk => trivial)⟩, ⟨by (with_reducible repeat (first | apply Kd.R_alloc | apply Kd.R_drewN | apply Kd.R_drew)); exact Kd.R_mono (Kd.R_far (p := ⟨gb383, 1, none⟩) (Kd.R_far (p := ⟨gb383, 0, none⟩) (Kd.R_mono HO_7.out (fun k_ hk => (⟨hk, hk.2⟩ : _ ∧ k_ ≠ gb383))) (fun _ hk => hk.2) (.int .i64 ((rd_T43 t375 x9_2).f0))) (fun _ hk => hk.2) (.int .i64 ((rd_T43 t375 x9_2).f1))) (fun _ hk => hk.1.2)⟩, ⟨by (with_reducible repeat (first | refine blk_drewN ?_ _ | refine blk_drew ?_ | refine blk_alloc ?_ _)); refine blk_put (cs := #[.int .i64 ((rd_T43 t375 x9_2).f0), .int .i64 0]) ?_ 1 _ rfl; (with_reducible repeat (first | refine blk_drewN ?_ _ | refine blk_drew ?_ | refine blk_alloc ?_ _)); refine blk_put (cs := #[.int .i64 0, .int .i64 0]) ?_ 0 _ rfl; (with_reducible repeat (first | refine blk_drewN ?_ _ | refine blk_drew ?_ | refine blk_alloc ?_ _)); exact BK383.out⟩, ⟨hb1_ HB.out GE383.out⟩⟩
                      · rw [if_neg c29] at H
                        have c29b0 : decide (((rd_T43 t375 x9_2).f1) ≤ ((rd_T43 t375 x9_2).f0)) = false := decide_eq_false c29
                        clear c29
                        (first | rw [c29b0] | (simp only [i64_w, i32_w]; rw [c29b0]) | skip)
                        by_cases c31 : ((rd_T43 t375 x9_2).f0) < t370
                        · rw [if_pos c31] at H
                          have c31b0 : decide (((rd_T43 t375 x9_2).f0) < t370) = true := decide_eq_true c31
                          clear c31
                          have H' := Aside0.mk H
                          clear H
                          have hcz32_0 := bc_ BK383.out 0 (.int .i64 0) rfl
                          have hcz32_1 := bc_ BK383.out 1 (.int .i64 0) rfl
                          have hfz32_0 := blk_frozen BK383.out 0
                          have hfz32_1 := blk_frozen BK383.out 1
                          go_wp2
                          repeat (go_quiet (fail); try go_wp2)
                          go_meet
                          case rel => exact ⟨_, (true), (by first | rfl | (simp; done) | (simp [*]; done)), H', ⟨by have := HJ6.out; have := HK2.out; first | omega | exact Nat.le_refl _⟩, ⟨by (with_reducible repeat (first | apply Kd.R_alloc | apply Kd.R_drewN | apply Kd.R_drew)); exact Kd.R_mono (Kd.R_far (p := ⟨gb383, 1, none⟩) (Kd.R_far (p := ⟨gb383, 0, none⟩) (Kd.R_types HO_3.out BK383.out (by decide)) (fun _ hk => hk.2) (.int .i64 ((rd_T43 t375 x9_2).f0))) (fun _ hk => hk.2) (.int .i64 ((rd_T43 t375 x9_2).f1))) (fun _ hk => trivial)⟩, ⟨by (with_reducible repeat (first | apply Kd.R_alloc | apply Kd.R_drewN | apply Kd.R_drew)); exact Kd.R_mono (Kd.R_far (p := ⟨gb383, 1, none⟩) (Kd.R_far (p := ⟨gb383, 0, none⟩) (Kd.R_mono HO_7.out (fun k_ hk => (⟨hk, hk.2⟩ : _ ∧ k_ ≠ gb383))) (fun _ hk => hk.2) (.int .i64 ((rd_T43 t375 x9_2).f0))) (fun _ hk => hk.2) (.int .i64 ((rd_T43 t375 x9_2).f1))) (fun _ hk => hk.1.2)⟩, ⟨by (with_reducible repeat (first | refine blk_drewN ?_ _ | refine blk_drew ?_ | refine blk_alloc ?_ _)); refine blk_put (cs := #[.int .i64 ((rd_T43 t375 x9_2).f0), .int .i64 0]) ?_ 1 _ rfl; (with_reducible repeat (first | refine blk_drewN ?_ _ | refine blk_drew ?_ | refine blk_alloc ?_ _)); refine blk_put (cs := #[.int .i64 0, .int .i64 0]) ?_ 0 _ rfl; (with_reducible repeat (first | refine blk_drewN ?_ _ | refine blk_drew ?_ | refine blk_alloc ?_ _)); exact BK383.out⟩, ⟨hb1_ HB.out GE383.out⟩⟩
                        · rw [if_neg c31] at H
                          have c31b0 : decide (((rd_T43 t375 x9_2).f0) < t370) = false := decide_eq_false c31
                          clear c31
                          by_cases c33 : ((rd_T43 t375 x9_2).f1) > t371
                          · rw [if_pos c33] at H
                            have c33b0 : decide (t371 < ((rd_T43 t375 x9_2).f1)) = true := decide_eq_true c33
                            clear c33
                            have H' := Aside0.mk H
                            clear H
                            have hcz34_0 := bc_ BK383.out 0 (.int .i64 0) rfl
                            have hcz34_1 := bc_ BK383.out 1 (.int .i64 0) rfl
                            have hfz34_0 := blk_frozen BK383.out 0
                            have hfz34_1 := blk_frozen BK383.out 1
                            go_wp2
                            repeat (go_quiet (fail); try go_wp2)
                            go_meet
                            case rel => exact ⟨_, (true), (by first | rfl | (simp; done) | (simp [*]; done)), H', ⟨by have := HJ6.out; have := HK2.out; first | omega | exact Nat.le_refl _⟩, ⟨by (with_reducible repeat (first | apply Kd.R_alloc | apply Kd.R_drewN | apply Kd.R_drew)); exact Kd.R_mono (Kd.R_far (p := ⟨gb383, 1, none⟩) (Kd.R_far (p := ⟨gb383, 0, none⟩) (Kd.R_types HO_3.out BK383.out (by decide)) (fun _ hk => hk.2) (.int .i64 ((rd_T43 t375 x9_2).f0))) (fun _ hk => hk.2) (.int .i64 ((rd_T43 t375 x9_2).f1))) (fun _ hk => trivial)⟩, ⟨by (with_reducible repeat (first | apply Kd.R_alloc | apply Kd.R_drewN | apply Kd.R_drew)); exact Kd.R_mono (Kd.R_far (p := ⟨gb383, 1, none⟩) (Kd.R_far (p := ⟨gb383, 0, none⟩) (Kd.R_mono HO_7.out (fun k_ hk => (⟨hk, hk.2⟩ : _ ∧ k_ ≠ gb383))) (fun _ hk => hk.2) (.int .i64 ((rd_T43 t375 x9_2).f0))) (fun _ hk => hk.2) (.int .i64 ((rd_T43 t375 x9_2).f1))) (fun _ hk => hk.1.2)⟩, ⟨by (with_reducible repeat (first | refine blk_drewN ?_ _ | refine blk_drew ?_ | refine blk_alloc ?_ _)); refine blk_put (cs := #[.int .i64 ((rd_T43 t375 x9_2).f0), .int .i64 0]) ?_ 1 _ rfl; (with_reducible repeat (first | refine blk_drewN ?_ _ | refine blk_drew ?_ | refine blk_alloc ?_ _)); refine blk_put (cs := #[.int .i64 0, .int .i64 0]) ?_ 0 _ rfl; (with_reducible repeat (first | refine blk_drewN ?_ _ | refine blk_drew ?_ | refine blk_alloc ?_ _)); exact BK383.out⟩, ⟨hb1_ HB.out GE383.out⟩⟩
                          · rw [if_neg c33] at H
                            have c33b0 : decide (t371 < ((rd_T43 t375 x9_2).f1)) = false := decide_eq_false c33
                            clear c33
                            by_cases c35 : x9_2 > 0
                            · rw [if_pos c35] at H
                              have c35b0 : decide (0 < x9_2) = true := decide_eq_true c35
                              clear c35
                              obtain ⟨ji36, hji36⟩ : ∃ j_ : Int, (wrap64 (x9_2 - 1)) = j_ := ⟨_, rfl⟩
                              replace H : (if 0 ≤ (ji36) then (if (ji36) < (t375.length : Int) then (laws_FnLoad.j2 k2 t369 t370 t371 t375 (wrap64 ((wrap64 (x8_2 + ((rd_T43 t375 x9_2).f1))) - ((rd_T43 t375 x9_2).f0))) x9_2 (decide (((rd_T43 t375 (ji36)).f1) ≥ ((rd_T43 t375 x9_2).f0))) ((rd_T43 t375 x9_2).f0) ((rd_T43 t375 x9_2).f1)) else (none)) else (none)) = some r := by first | (rw [hji36] at H; exact H) | (simp only [hji36] at H ⊢; exact H)
                              have hji36w : (IntKind.i64.wrap (x9_2 - 1)) = ji36 := (i64_w _).trans hji36
                              by_cases c37 : 0 ≤ (ji36)
                              · rw [if_pos c37] at H
                                have c37b0 : decide (0 ≤ (ji36)) = true := decide_eq_true c37
                                clear c37
                                by_cases c38 : (ji36) < (t375.length : Int)
                                · rw [if_pos c38] at H
                                  have c38b0 : decide ((ji36) < (t375.length : Int)) = true := decide_eq_true c38
                                  clear c38
                                  have H' := Aside0.mk H
                                  clear H
                                  have hcz39_0 := bc_ BK383.out 0 (.int .i64 0) rfl
                                  have hcz39_1 := bc_ BK383.out 1 (.int .i64 0) rfl
                                  have hfz39_0 := blk_frozen BK383.out 0
                                  have hfz39_1 := blk_frozen BK383.out 1
                                  have p384 : 0 ≤ ((ji36) : Int) := of_decide_eq_true (by first | (with_reducible assumption) | assumption)
                                  have q384 : (ji36) < (t375.length : Int) := of_decide_eq_true (by first | (with_reducible assumption) | assumption)
                                  obtain ⟨ad384, e384, hx384_0, hx384_1⟩ := at_T43 (Kd.R_reads' HO_7.out).2.2 (ji36) p384 q384
                                  obtain rfl : ad382 = ad384 := (by injection e384)
                                  have hn384_0 : ad382.block ≠ gb383 := Kd.own_blk (Kd.R_away HO_7.out (fun _ hk => hk.2))
                                  have hn384_1 : ad382.block ≠ gb383 := Kd.own_blk (Kd.R_away HO_7.out (fun _ hk => hk.2))
                                  replace hx384_0 := (cell_far (p := ⟨gb383, 0, none⟩) (by first | (rw [add_block]; exact hn384_0) | (show (Addr.add _ _).block ≠ _; rw [add_block]; exact hn384_0) | exact hn384_0) (.int .i64 ((rd_T43 t375 x9_2).f0))).trans hx384_0
                                  replace hx384_1 := (cell_far (p := ⟨gb383, 0, none⟩) (by first | (rw [add_block]; exact hn384_0) | (show (Addr.add _ _).block ≠ _; rw [add_block]; exact hn384_0) | exact hn384_0) (.int .i64 ((rd_T43 t375 x9_2).f0))).trans hx384_1
                                  replace hx384_0 := (cell_far (p := ⟨gb383, 1, none⟩) (by first | (rw [add_block]; exact hn384_1) | (show (Addr.add _ _).block ≠ _; rw [add_block]; exact hn384_1) | exact hn384_1) (.int .i64 ((rd_T43 t375 x9_2).f1))).trans hx384_0
                                  replace hx384_1 := (cell_far (p := ⟨gb383, 1, none⟩) (by first | (rw [add_block]; exact hn384_1) | (show (Addr.add _ _).block ≠ _; rw [add_block]; exact hn384_1) | exact hn384_1) (.int .i64 ((rd_T43 t375 x9_2).f1))).trans hx384_1
                                  (try have hy384_0 := fun (n_ : Nat) => (show ((((w27.drewN n_).setCell ⟨gb383, 0, none⟩ (.int .i64 ((rd_T43 t375 x9_2).f0))).setCell ⟨gb383, 1, none⟩ (.int .i64 ((rd_T43 t375 x9_2).f1)))).cell? _ = some _ from hx384_0))
                                  (try have hy384_1 := fun (n_ : Nat) => (show ((((w27.drewN n_).setCell ⟨gb383, 0, none⟩ (.int .i64 ((rd_T43 t375 x9_2).f0))).setCell ⟨gb383, 1, none⟩ (.int .i64 ((rd_T43 t375 x9_2).f1)))).cell? _ = some _ from hx384_1))
                                  clear hn384_0
                                  clear hn384_1
                                  replace p384 := eq_true p384
                                  replace q384 := eq_true q384
                                  go_wp2
                                  repeat (go_quiet (fail); try go_wp2)
                                  go_meet
                                  case rel => exact ⟨_, (decide (((rd_T43 t375 (ji36)).f1) ≥ ((rd_T43 t375 x9_2).f0))), (by first | rfl | (simp; done) | (simp only [← hji36] <;> (first | rfl | simp)) | (simp [*]; done)), H', ⟨by have := HJ6.out; have := HK2.out; first | omega | exact Nat.le_refl _⟩, ⟨by (with_reducible repeat (first | apply Kd.R_alloc | apply Kd.R_drewN | apply Kd.R_drew)); exact Kd.R_mono (Kd.R_far (p := ⟨gb383, 1, none⟩) (Kd.R_far (p := ⟨gb383, 0, none⟩) (Kd.R_types HO_3.out BK383.out (by decide)) (fun _ hk => hk.2) (.int .i64 ((rd_T43 t375 x9_2).f0))) (fun _ hk => hk.2) (.int .i64 ((rd_T43 t375 x9_2).f1))) (fun _ hk => trivial)⟩, ⟨by (with_reducible repeat (first | apply Kd.R_alloc | apply Kd.R_drewN | apply Kd.R_drew)); exact Kd.R_mono (Kd.R_far (p := ⟨gb383, 1, none⟩) (Kd.R_far (p := ⟨gb383, 0, none⟩) (Kd.R_mono HO_7.out (fun k_ hk => (⟨hk, hk.2⟩ : _ ∧ k_ ≠ gb383))) (fun _ hk => hk.2) (.int .i64 ((rd_T43 t375 x9_2).f0))) (fun _ hk => hk.2) (.int .i64 ((rd_T43 t375 x9_2).f1))) (fun _ hk => hk.1.2)⟩, ⟨by (with_reducible repeat (first | refine blk_drewN ?_ _ | refine blk_drew ?_ | refine blk_alloc ?_ _)); refine blk_put (cs := #[.int .i64 ((rd_T43 t375 x9_2).f0), .int .i64 0]) ?_ 1 _ rfl; (with_reducible repeat (first | refine blk_drewN ?_ _ | refine blk_drew ?_ | refine blk_alloc ?_ _)); refine blk_put (cs := #[.int .i64 0, .int .i64 0]) ?_ 0 _ rfl; (with_reducible repeat (first | refine blk_drewN ?_ _ | refine blk_drew ?_ | refine blk_alloc ?_ _)); exact BK383.out⟩, ⟨hb1_ HB.out GE383.out⟩⟩
                                · rw [if_neg c38] at H
                                  exact absurd H (by simp)
                              · rw [if_neg c37] at H
                                exact absurd H (by simp)
                            · rw [if_neg c35] at H
                              have c35b0 : decide (0 < x9_2) = false := decide_eq_false c35
                              clear c35
                              have H' := Aside0.mk H
                              clear H
                              have hcz40_0 := bc_ BK383.out 0 (.int .i64 0) rfl
                              have hcz40_1 := bc_ BK383.out 1 (.int .i64 0) rfl
                              have hfz40_0 := blk_frozen BK383.out 0
                              have hfz40_1 := blk_frozen BK383.out 1
                              go_wp2
                              repeat (go_quiet (fail); try go_wp2)
                              go_meet
                              case rel => exact ⟨_, (false), (by first | rfl | (simp; done) | (simp [*]; done)), H', ⟨by have := HJ6.out; have := HK2.out; first | omega | exact Nat.le_refl _⟩, ⟨by (with_reducible repeat (first | apply Kd.R_alloc | apply Kd.R_drewN | apply Kd.R_drew)); exact Kd.R_mono (Kd.R_far (p := ⟨gb383, 1, none⟩) (Kd.R_far (p := ⟨gb383, 0, none⟩) (Kd.R_types HO_3.out BK383.out (by decide)) (fun _ hk => hk.2) (.int .i64 ((rd_T43 t375 x9_2).f0))) (fun _ hk => hk.2) (.int .i64 ((rd_T43 t375 x9_2).f1))) (fun _ hk => trivial)⟩, ⟨by (with_reducible repeat (first | apply Kd.R_alloc | apply Kd.R_drewN | apply Kd.R_drew)); exact Kd.R_mono (Kd.R_far (p := ⟨gb383, 1, none⟩) (Kd.R_far (p := ⟨gb383, 0, none⟩) (Kd.R_mono HO_7.out (fun k_ hk => (⟨hk, hk.2⟩ : _ ∧ k_ ≠ gb383))) (fun _ hk => hk.2) (.int .i64 ((rd_T43 t375 x9_2).f0))) (fun _ hk => hk.2) (.int .i64 ((rd_T43 t375 x9_2).f1))) (fun _ hk => hk.1.2)⟩, ⟨by (with_reducible repeat (first | refine blk_drewN ?_ _ | refine blk_drew ?_ | refine blk_alloc ?_ _)); refine blk_put (cs := #[.int .i64 ((rd_T43 t375 x9_2).f0), .int .i64 0]) ?_ 1 _ rfl; (with_reducible repeat (first | refine blk_drewN ?_ _ | refine blk_drew ?_ | refine blk_alloc ?_ _)); refine blk_put (cs := #[.int .i64 0, .int .i64 0]) ?_ 0 _ rfl; (with_reducible repeat (first | refine blk_drewN ?_ _ | refine blk_drew ?_ | refine blk_alloc ?_ _)); exact BK383.out⟩, ⟨hb1_ HB.out GE383.out⟩⟩
                    case rest =>
                      clear HC25
                      try clear c1
                      try clear c2
                      try clear p2
                      try clear c3
                      try clear p3
                      try clear q3
                      try clear hx3
                      try clear c4
                      try clear p6
                      try clear c13
                      try clear c13b0
                      try clear c13b1
                      try clear c20
                      try clear c21
                      try clear c21b0
                      try clear c23
                      try clear c23b0
                      try clear c24
                      try clear c24b0
                      try clear c29
                      try clear c29b0
                      try clear c31
                      try clear c31b0
                      try clear c33
                      try clear c33b0
                      try clear c35
                      try clear c35b0
                      try clear c37
                      try clear c37b0
                      try clear c38
                      try clear c38b0
                      try clear p38
                      try clear q38
                      try clear hx38
                      try clear hcz28_0
                      try clear hcz28_1
                      try clear hcz30_0
                      try clear hcz30_1
                      try clear hcz32_0
                      try clear hcz32_1
                      try clear hcz34_0
                      try clear hcz34_1
                      try clear hcz39_0
                      try clear hcz39_1
                      try clear hcz40_0
                      try clear hcz40_1
                      try clear hfz28_0
                      try clear hfz28_1
                      try clear hfz30_0
                      try clear hfz30_1
                      try clear hfz32_0
                      try clear hfz32_1
                      try clear hfz34_0
                      try clear hfz34_1
                      try clear hfz39_0
                      try clear hfz39_1
                      try clear hfz40_0
                      try clear hfz40_1
                      try clear hx382_0
                      try clear hx382_1
                      try clear hx384_0
                      try clear hx384_1
                      try clear p2
                      try clear p382
                      try clear p384
                      try clear q382
                      try clear q384
                      obtain ⟨kq, x98_24, rfl, HA, HJ24, HO_3, HO_7, BK383, HB⟩ := hcut
                      cases kq with
                      | zero => exact absurd HA.out (by simp [laws_FnLoad.j2])
                      | succ kj24 =>
                        have H := HA.out
                        clear HA
                        simp only [laws_FnLoad.j2] at H
                        by_cases c41 : x98_24 = true
                        · subst c41
                          have H1 : (some false) = some r := by rw [if_pos rfl] at H; exact H
                          clear H
                          have H := H1
                          clear H1
                          obtain rfl := Option.some.inj H
                          exact absurd hr_ (by decide)
                        · replace c41 := Bool.eq_false_iff.mpr c41
                          subst c41
                          have H1 : (laws_FnLoad.l1 kj24 t369 t370 t371 t375 (wrap64 ((wrap64 (x8_2 + ((rd_T43 t375 x9_2).f1))) - ((rd_T43 t375 x9_2).f0))) x9_2 0 ((rd_T43 t375 x9_2).f0) ((rd_T43 t375 x9_2).f1)) = some r := by rw [if_neg (show ¬ (false = true) by decide)] at H; exact H
                          clear H
                          have H := H1
                          clear H1
                          have H' := Aside0.mk H
                          clear H
                          go_wp2
                          repeat (go_quiet (fail); try go_wp2)
                          go_loopg [11] kj24 (fun kq v11 w' => ∃ (x11_4 : Int), v11 = .int .i64 x11_4 ∧ Aside0 (laws_FnLoad.l1 kq t369 t370 t371 t375 (wrap64 ((wrap64 (x8_2 + ((rd_T43 t375 x9_2).f1))) - ((rd_T43 t375 x9_2).f0))) x9_2 x11_4 ((rd_T43 t375 x9_2).f0) ((rd_T43 t375 x9_2).f1) = some r) ∧ Aside0 (kq ≤ kj24) ∧ Aside0 (Kd.R k33 33 w' w.heap.size (fun _ => True) (.slice Ao9 t369.length co9) t369) ∧ Aside0 (Kd.R k43 43 w' w.heap.size (fun k_ => k_ ≠ gb383) (.slice (some ad382) t375.length co26) t375) ∧ Aside0 (w'.heap[gb383]? = some (.cells #[.int .i64 ((rd_T43 t375 x9_2).f0), .int .i64 ((rd_T43 t375 x9_2).f1)] 43 (0, 0))) ∧ Aside0 (Below w.heap.size w w'))
                          case atStart => exact ⟨(0), (by first | rfl | (simp; done) | (simp [*]; done)), H', ⟨Nat.le_refl _⟩, ⟨by (with_reducible repeat (first | apply Kd.R_alloc | apply Kd.R_drewN | apply Kd.R_drew)); exact HO_3.out⟩, ⟨by (with_reducible repeat (first | apply Kd.R_alloc | apply Kd.R_drewN | apply Kd.R_drew)); exact HO_7.out⟩, ⟨bk_ BK383.out⟩, ⟨hb1_ HB.out GE383.out⟩⟩
                          case round =>
                            clear H'
                            try clear c1
                            try clear c2
                            try clear p2
                            try clear c3
                            try clear p3
                            try clear q3
                            try clear hx3
                            try clear c4
                            try clear p6
                            try clear c13
                            try clear c13b0
                            try clear c13b1
                            try clear c20
                            try clear c21
                            try clear c21b0
                            try clear c23
                            try clear c23b0
                            try clear c24
                            try clear c24b0
                            try clear c29
                            try clear c29b0
                            try clear c31
                            try clear c31b0
                            try clear c33
                            try clear c33b0
                            try clear c35
                            try clear c35b0
                            try clear c37
                            try clear c37b0
                            try clear c38
                            try clear c38b0
                            try clear p38
                            try clear q38
                            try clear hx38
                            try clear c41
                            try clear hcz28_0
                            try clear hcz28_1
                            try clear hcz30_0
                            try clear hcz30_1
                            try clear hcz32_0
                            try clear hcz32_1
                            try clear hcz34_0
                            try clear hcz34_1
                            try clear hcz39_0
                            try clear hcz39_1
                            try clear hcz40_0
                            try clear hcz40_1
                            try clear hfz28_0
                            try clear hfz28_1
                            try clear hfz30_0
                            try clear hfz30_1
                            try clear hfz32_0
                            try clear hfz32_1
                            try clear hfz34_0
                            try clear hfz34_1
                            try clear hfz39_0
                            try clear hfz39_1
                            try clear hfz40_0
                            try clear hfz40_1
                            try clear hx382_0
                            try clear hx382_1
                            try clear hx384_0
                            try clear hx384_1
                            try clear p2
                            try clear p3
                            try clear p38
                            try clear p382
                            try clear p384
                            try clear p6
                            try clear q3
                            try clear q38
                            try clear q382
                            try clear q384
                            obtain ⟨x11_4, rfl, HA, HK4, HO_3, HO_7, BK383, HB⟩ := hrel
                            cases gk with
                            | zero => exact absurd HA.out (by simp [laws_FnLoad.l1])
                            | succ k4 =>
                              have H := HA.out
                              clear HA
                              simp only [laws_FnLoad.l1] at H
                              by_cases c42 : x11_4 < (t369.length : Int)
                              · rw [if_pos c42] at H
                                have c42b0 : decide (x11_4 < (t369.length : Int)) = true := decide_eq_true c42
                                clear c42
                                by_cases c43 : 0 ≤ x11_4
                                · rw [if_pos c43] at H
                                  have c43b0 : decide (0 ≤ x11_4) = true := decide_eq_true c43
                                  clear c43
                                  by_cases c44 : ((rd_T33 t369 x11_4).f3) < ((rd_T43 t375 x9_2).f1)
                                  · rw [if_pos c44] at H
                                    have c44b0 : decide (((rd_T33 t369 x11_4).f3) < ((rd_T43 t375 x9_2).f1)) = true := decide_eq_true c44
                                    clear c44
                                    by_cases c45 : ((rd_T43 t375 x9_2).f0) < ((rd_T33 t369 x11_4).f4)
                                    · rw [if_pos c45] at H
                                      have c45b0 : decide (((rd_T43 t375 x9_2).f0) < ((rd_T33 t369 x11_4).f4)) = true := decide_eq_true c45
                                      clear c45
                                      obtain rfl := Option.some.inj H
                                      exact absurd hr_ (by decide)
                                    · rw [if_neg c45] at H
                                      have c45b0 : decide (((rd_T43 t375 x9_2).f0) < ((rd_T33 t369 x11_4).f4)) = false := decide_eq_false c45
                                      clear c45
                                      have H' := Aside0.mk H
                                      clear H
                                      have p385 : 0 ≤ (x11_4 : Int) := of_decide_eq_true (by first | (with_reducible assumption) | assumption)
                                      have q385 : x11_4 < (t369.length : Int) := of_decide_eq_true (by first | (with_reducible assumption) | assumption)
                                      obtain ⟨ad385, e385, hx385_0, hx385_1, hx385_2, hx385_3, hx385_4, hx385_5⟩ := at_T33 (Kd.R_reads' HO_3.out).2.2 x11_4 p385 q385
                                      cases e385
                                      replace p385 := eq_true p385
                                      replace q385 := eq_true q385
                                      have hcz46_0 : wr.cell? ⟨gb383, 0, none⟩ = some (.int .i64 ((rd_T43 t375 x9_2).f0)) := (blk_cell BK383.out 0).trans rfl
                                      have hcz46_1 : wr.cell? ⟨gb383, 1, none⟩ = some (.int .i64 ((rd_T43 t375 x9_2).f1)) := (blk_cell BK383.out 1).trans rfl
                                      have hfz46_0 := blk_frozen BK383.out 0
                                      have hfz46_1 := blk_frozen BK383.out 1
                                      have p386 : 0 ≤ (x11_4 : Int) := of_decide_eq_true (by first | (with_reducible assumption) | assumption)
                                      have q386 : x11_4 < (t369.length : Int) := of_decide_eq_true (by first | (with_reducible assumption) | assumption)
                                      obtain ⟨ad386, e386, hx386_0, hx386_1, hx386_2, hx386_3, hx386_4, hx386_5⟩ := at_T33 (Kd.R_reads' HO_3.out).2.2 x11_4 p386 q386
                                      obtain rfl : ad385 = ad386 := (by injection e386)
                                      replace p386 := eq_true p386
                                      replace q386 := eq_true q386
                                      go_wp2
                                      repeat (go_quiet (fail); try go_wp2)
                                      go_roundg k4
                                      case measure => have := HJ6.out; have := HK2.out; have := HJ24.out; have := HK4.out; omega
                                      case rel => exact ⟨(wrap64 (x11_4 + 1)), (by first | rfl | (simp; done) | (simp [*]; done)), H', ⟨by have := HJ6.out; have := HK2.out; have := HJ24.out; have := HK4.out; omega⟩, ⟨by (with_reducible repeat (first | apply Kd.R_alloc | apply Kd.R_drewN | apply Kd.R_drew)); exact HO_3.out⟩, ⟨by (with_reducible repeat (first | apply Kd.R_alloc | apply Kd.R_drewN | apply Kd.R_drew)); exact HO_7.out⟩, ⟨bk_ BK383.out⟩, ⟨hb1_ HB.out GE383.out⟩⟩
                                  · rw [if_neg c44] at H
                                    have c44b0 : decide (((rd_T33 t369 x11_4).f3) < ((rd_T43 t375 x9_2).f1)) = false := decide_eq_false c44
                                    clear c44
                                    have H' := Aside0.mk H
                                    clear H
                                    have p385 : 0 ≤ (x11_4 : Int) := of_decide_eq_true (by first | (with_reducible assumption) | assumption)
                                    have q385 : x11_4 < (t369.length : Int) := of_decide_eq_true (by first | (with_reducible assumption) | assumption)
                                    obtain ⟨ad385, e385, hx385_0, hx385_1, hx385_2, hx385_3, hx385_4, hx385_5⟩ := at_T33 (Kd.R_reads' HO_3.out).2.2 x11_4 p385 q385
                                    cases e385
                                    replace p385 := eq_true p385
                                    replace q385 := eq_true q385
                                    have hcz47_0 : wr.cell? ⟨gb383, 0, none⟩ = some (.int .i64 ((rd_T43 t375 x9_2).f0)) := (blk_cell BK383.out 0).trans rfl
                                    have hcz47_1 : wr.cell? ⟨gb383, 1, none⟩ = some (.int .i64 ((rd_T43 t375 x9_2).f1)) := (blk_cell BK383.out 1).trans rfl
                                    have hfz47_0 := blk_frozen BK383.out 0
                                    have hfz47_1 := blk_frozen BK383.out 1
                                    go_wp2
                                    repeat (go_quiet (fail); try go_wp2)
                                    go_roundg k4
                                    case measure => have := HJ6.out; have := HK2.out; have := HJ24.out; have := HK4.out; omega
                                    case rel => exact ⟨(wrap64 (x11_4 + 1)), (by first | rfl | (simp; done) | (simp [*]; done)), H', ⟨by have := HJ6.out; have := HK2.out; have := HJ24.out; have := HK4.out; omega⟩, ⟨by (with_reducible repeat (first | apply Kd.R_alloc | apply Kd.R_drewN | apply Kd.R_drew)); exact HO_3.out⟩, ⟨by (with_reducible repeat (first | apply Kd.R_alloc | apply Kd.R_drewN | apply Kd.R_drew)); exact HO_7.out⟩, ⟨bk_ BK383.out⟩, ⟨hb1_ HB.out GE383.out⟩⟩
                                · rw [if_neg c43] at H
                                  exact absurd H (by simp)
                              · rw [if_neg c42] at H
                                have c42b0 : decide (x11_4 < (t369.length : Int)) = false := decide_eq_false c42
                                clear c42
                                have H' := Aside0.mk H
                                clear H
                                go_wp2
                                repeat (go_quiet (fail); try go_wp2)
                                go_roundg k4
                                case measure => have := HJ6.out; have := HK2.out; have := HJ24.out; have := HK4.out; omega
                                case rel => exact ⟨((wrap64 ((wrap64 (x8_2 + ((rd_T43 t375 x9_2).f1))) - ((rd_T43 t375 x9_2).f0)))), (wrap64 (x9_2 + 1)), (by first | rfl | (simp; done) | (simp [*]; done)), (by first | rfl | (simp; done) | (simp [*]; done)), H', ⟨by have := HJ6.out; have := HK2.out; have := HJ24.out; have := HK4.out; omega⟩, ⟨by (with_reducible repeat (first | apply Kd.R_alloc | apply Kd.R_drewN | apply Kd.R_drew)); exact HO_3.out⟩, ⟨by (with_reducible repeat (first | apply Kd.R_alloc | apply Kd.R_drewN | apply Kd.R_drew)); exact Kd.R_mono HO_7.out (fun _ hk => trivial)⟩, ⟨hb1_ HB.out GE383.out⟩⟩
                  · rw [if_neg c24] at H
                    exact absurd H (by simp)
                · rw [if_neg c23] at H
                  have c23b0 : decide (x9_2 < (t375.length : Int)) = false := decide_eq_false c23
                  clear c23
                  obtain rfl := Option.some.inj H
                  obtain ⟨Ao48, co48, eo48⟩ := Kd.R_slice HO_7.out
                  subst eo48
                  go_wp2
                  repeat (go_quiet (fail); try go_wp2)
                  go_ret
                  exact ⟨er_, hb_ HB.out⟩
end Go.Proofs.Ytjlmfnpgcmmdnaa.P

namespace Go.Proofs.Ytjlmfnpgcmmdnaa.G
open Go.RowKit Go.Proofs.YtjlmfnpgcmmdnaaW.PrintWords
theorem wrap_id {x : Int} (h1 : -9223372036854775808 ≤ x) (h2 : x ≤ 9223372036854775807) : wrap64 x = x := by unfold wrap64; omega
theorem wrap_succ {i n : Nat} (h : i < n) (hn : n ≤ 9223372036854775807) : wrap64 ((i : Int) + 1) = ((i + 1 : Nat) : Int) := by unfold wrap64; omega
theorem wrap_pred {i n : Nat} (h0 : 0 < i) (h : i < n) (hn : n ≤ 9223372036854775807) : wrap64 ((i : Int) - 1) = ((i - 1 : Nat) : Int) := by unfold wrap64; omega
theorem all_loop {n : Nat} {L : Nat → Int → Option Bool} {Q : Nat → Bool} {e : Bool}
    (hs : ∀ k i, i < n → L (k + 1) (i : Int) = if Q i = true then L k ((i + 1 : Nat) : Int) else some false)
    (he : ∀ k, L (k + 1) (n : Int) = some e) :
    ∀ d i k, i + d = n → d < k → L k (i : Int) = some ((List.range' i d).all Q && e) := by
  intro d
  induction d with
  | zero =>
    intro i k h hk
    obtain ⟨k, rfl⟩ : ∃ m, k = m + 1 := ⟨k - 1, by omega⟩
    obtain rfl : i = n := by omega
    rw [he]; simp
  | succ d ih =>
    intro i k h hk
    obtain ⟨k, rfl⟩ : ∃ m, k = m + 1 := ⟨k - 1, by omega⟩
    rw [hs k i (by omega)]
    rw [List.range'_succ]
    cases hq : Q i with
    | true => rw [if_pos rfl, ih (i + 1) k (by omega) (by omega)]; simp [hq]
    | false => simp [hq]
theorem all_loop0 {n : Nat} {L : Nat → Int → Option Bool} {Q : Nat → Bool} {e : Bool}
    (hs : ∀ k i, i < n → L (k + 1) (i : Int) = if Q i = true then L k ((i + 1 : Nat) : Int) else some false)
    (he : ∀ k, L (k + 1) (n : Int) = some e) (k : Nat) (hk : n < k) : L k 0 = some ((List.range n).all Q && e) := by
  have := all_loop hs he n 0 k (by omega) hk
  rw [List.range_eq_range']
  exact this
theorem track_loop {n : Nat} {σ ρ : Type} {L : Nat → σ → Int → Option ρ} {F : Nat → σ} {r : ρ} {c : Nat}
    (hs : ∀ k i, i < n → c ≤ k → L (k + 1) (F i) (i : Int) = L k (F (i + 1)) ((i + 1 : Nat) : Int))
    (he : ∀ k, c ≤ k → L (k + 1) (F n) (n : Int) = some r) :
    ∀ d i k, i + d = n → d + c < k → L k (F i) (i : Int) = some r := by
  intro d
  induction d with
  | zero =>
    intro i k h hk
    obtain ⟨k, rfl⟩ : ∃ m, k = m + 1 := ⟨k - 1, by omega⟩
    obtain rfl : i = n := by omega
    exact he k (by omega)
  | succ d ih =>
    intro i k h hk
    obtain ⟨k, rfl⟩ : ∃ m, k = m + 1 := ⟨k - 1, by omega⟩
    rw [hs k i (by omega) (by omega)]
    exact ih (i + 1) k (by omega) (by omega)
theorem track_loop0 {n : Nat} {σ ρ : Type} {L : Nat → σ → Int → Option ρ} {F : Nat → σ} {r : ρ} {c : Nat}
    (hs : ∀ k i, i < n → c ≤ k → L (k + 1) (F i) (i : Int) = L k (F (i + 1)) ((i + 1 : Nat) : Int))
    (he : ∀ k, c ≤ k → L (k + 1) (F n) (n : Int) = some r) (k : Nat) (hk : n + c < k) : L k (F 0) 0 = some r :=
  track_loop hs he n 0 k (by omega) hk
theorem all_iff {n : Nat} {Q : Nat → Bool} : (List.range n).all Q = true ↔ ∀ i, i < n → Q i = true := by
  rw [List.all_eq_true]; exact ⟨fun h i hi => h i (List.mem_range.2 hi), fun h i hi => h i (List.mem_range.1 hi)⟩
end Go.Proofs.Ytjlmfnpgcmmdnaa.G
namespace Go.Proofs.Ytjlmfnpgcmmdnaa.P
open Go.RowKit Go.Proofs.YtjlmfnpgcmmdnaaW.PrintWords Go.Proofs.YtjlmfnpgcmmdnaaW.PrintLast Go.Proofs.YtjlmfnpgcmmdnaaW.PrintMore
attribute [local go_sem] max2_int min2_int max_two min_two max_three min_three max_four min_four
set_option linter.unusedVariables false
set_option linter.unusedSimpArgs false
end Go.Proofs.Ytjlmfnpgcmmdnaa.P

namespace Go.Proofs.Ytjlmfnpgcmmdnaa.C
open Go.RowKit Go.Proofs.Ytjlmfnpgcmmdnaa.P Go.Proofs.Ytjlmfnpgcmmdnaa.G
theorem l1In (a b c : Int) : spec_l1In.f a b c = some (decide (b ≤ a ∧ a ≤ c)) := by
  unfold spec_l1In.f; by_cases h : a ≥ b <;> simp [h] <;> omega
theorem in_ (a b c : Int) : impl_in.f a b c = some (decide (b ≤ a ∧ a ≤ c)) := by
  unfold impl_in.f; by_cases h : b ≤ a <;> simp [h]
theorem isTime (a : Int) : impl_isTime.f a = some (decide (0 ≤ a ∧ a ≤ 1000000000000)) := by
  unfold impl_isTime.f; rw [in_]; rfl
theorem l4Node (a : Int) : spec_l4Node.f a = some (decide (0 ≤ a ∧ a ≤ 7)) := by
  unfold spec_l4Node.f; rw [l1In]; rfl
theorem isNode (a : Int) : impl_isNode.f a = some (decide (0 ≤ a ∧ a ≤ 7)) := by
  unfold impl_isNode.f; rw [in_]; rfl
def frameOk (a b c d e : Int) (s : ByteArray) : Bool := decide (0 ≤ a ∧ a ≤ 7) && decide (0 ≤ b ∧ b ≤ 15) && decide (0 ≤ c ∧ c ≤ 1000000000000) && decide (0 ≤ d) && decide (d < e) && decide (e ≤ 1000000000000) && decide ((s.size : Int) ≤ 24)
theorem sFrameOk (a b c d e : Int) (s : ByteArray) : spec_FrameOk.f a b c d e s = some (frameOk a b c d e s) := by
  unfold spec_FrameOk.f frameOk; simp only [l4Node, l1In, Option.bind_some, ge_iff_le]
  by_cases h1 : (0 ≤ a ∧ a ≤ 7) <;> by_cases h2 : (0 ≤ b ∧ b ≤ 15) <;> by_cases h3 : (0 ≤ c ∧ c ≤ 1000000000000) <;> by_cases h4 : 0 ≤ d <;> by_cases h5 : d < e <;> by_cases h6 : e ≤ 1000000000000 <;> simp [h1, h2, h3, h4, h5, h6]
theorem iFrameOk (a b c d e : Int) (s : ByteArray) : impl_FrameOk.f a b c d e s = some (frameOk a b c d e s) := by
  unfold impl_FrameOk.f frameOk; simp only [isNode, isTime, in_, Option.bind_some]
  by_cases h1 : (0 ≤ a ∧ a ≤ 7) <;> by_cases h2 : (0 ≤ b ∧ b ≤ 15) <;> by_cases h3 : (0 ≤ c ∧ c ≤ 1000000000000) <;> by_cases h4 : 0 ≤ d <;> by_cases h5 : d < e <;> by_cases h6 : e ≤ 1000000000000 <;> simp [h1, h2, h3, h4, h5, h6]
end Go.Proofs.Ytjlmfnpgcmmdnaa.C
namespace Go.Proofs.Ytjlmfnpgcmmdnaa.P
open Go.RowKit Go.Proofs.YtjlmfnpgcmmdnaaW.PrintWords Go.Proofs.YtjlmfnpgcmmdnaaW.PrintLast Go.Proofs.YtjlmfnpgcmmdnaaW.PrintMore
attribute [local go_sem] max2_int min2_int max_two min_two max_three min_three max_four min_four
set_option linter.unusedVariables false
set_option linter.unusedSimpArgs false
end Go.Proofs.Ytjlmfnpgcmmdnaa.P

namespace Go.Proofs.Ytjlmfnpgcmmdnaa.P
open Go.RowKit Go.Proofs.YtjlmfnpgcmmdnaaW.PrintWords Go.Proofs.YtjlmfnpgcmmdnaaW.PrintLast Go.Proofs.YtjlmfnpgcmmdnaaW.PrintMore
attribute [local go_sem] max2_int min2_int max_two min_two max_three min_three max_four min_four
set_option linter.unusedVariables false
set_option linter.unusedSimpArgs false
end Go.Proofs.Ytjlmfnpgcmmdnaa.P

namespace Go.Proofs.Ytjlmfnpgcmmdnaa.P
open Go.RowKit Go.Proofs.YtjlmfnpgcmmdnaaW.PrintWords Go.Proofs.YtjlmfnpgcmmdnaaW.PrintLast Go.Proofs.YtjlmfnpgcmmdnaaW.PrintMore
attribute [local go_sem] max2_int min2_int max_two min_two max_three min_three max_four min_four
set_option linter.unusedVariables false
set_option linter.unusedSimpArgs false
end Go.Proofs.Ytjlmfnpgcmmdnaa.P

namespace Go.Proofs.Ytjlmfnpgcmmdnaa.P
open Go.RowKit Go.Proofs.YtjlmfnpgcmmdnaaW.PrintWords Go.Proofs.YtjlmfnpgcmmdnaaW.PrintLast Go.Proofs.YtjlmfnpgcmmdnaaW.PrintMore
attribute [local go_sem] max2_int min2_int max_two min_two max_three min_three max_four min_four
set_option linter.unusedVariables false
set_option linter.unusedSimpArgs false
end Go.Proofs.Ytjlmfnpgcmmdnaa.P

namespace Go.Proofs.Ytjlmfnpgcmmdnaa.P
open Go.RowKit Go.Proofs.YtjlmfnpgcmmdnaaW.PrintWords Go.Proofs.YtjlmfnpgcmmdnaaW.PrintLast Go.Proofs.YtjlmfnpgcmmdnaaW.PrintMore
attribute [local go_sem] max2_int min2_int max_two min_two max_three min_three max_four min_four
set_option linter.unusedVariables false
set_option linter.unusedSimpArgs false
end Go.Proofs.Ytjlmfnpgcmmdnaa.P

namespace Go.Proofs.Ytjlmfnpgcmmdnaa.P
open Go.RowKit Go.Proofs.YtjlmfnpgcmmdnaaW.PrintWords Go.Proofs.YtjlmfnpgcmmdnaaW.PrintLast Go.Proofs.YtjlmfnpgcmmdnaaW.PrintMore
attribute [local go_sem] max2_int min2_int max_two min_two max_three min_three max_four min_four
set_option linter.unusedVariables false
set_option linter.unusedSimpArgs false
end Go.Proofs.Ytjlmfnpgcmmdnaa.P

namespace Go.Proofs.Ytjlmfnpgcmmdnaa.C
open Go.RowKit Go.Proofs.Ytjlmfnpgcmmdnaa.P Go.Proofs.Ytjlmfnpgcmmdnaa.G
abbrev Fr := S33
theorem rdFr (l : List Fr) (i : Nat) (h : i < l.length) : rd_T33 l (i : Int) = l[i] := by
  unfold rd_T33; simp [List.getD, h]
def frOk (l : List Fr) (i : Nat) : Bool := match l[i]? with
  | some x => frameOk x.f0 x.f1 x.f2 x.f3 x.f4 x.f5 && (i == 0 || (match l[i - 1]? with | some y => !decide (x.f3 < y.f3) | none => true))
  | none => true
def busOk (l : List Fr) : Bool := (List.range l.length).all (frOk l) && decide ((l.length : Int) ≤ 60)
theorem sBusOk (l : List Fr) (hl : l.length ≤ 1048576) (k : Nat) (hk : l.length < k) : spec_BusOk.f k l = some (busOk l) := by
  unfold spec_BusOk.f busOk
  by_cases h : (l.length : Int) > 60
  · rw [if_pos h, decide_eq_false (by omega)]; simp
  rw [if_neg h, decide_eq_true (by omega)]
  refine all_loop0 (n := l.length) (L := fun k i => spec_BusOk.l0 k l i) (Q := frOk l) (e := true) (fun k i hi => ?_) (fun k => ?_) k hk
  · simp only [spec_BusOk.l0, sFrameOk, Option.bind_some]
    rw [if_pos (by omega), if_pos (by omega), wrap_succ hi (by omega), rdFr l i hi]
    have hq : frOk l i = (frameOk l[i].f0 l[i].f1 l[i].f2 l[i].f3 l[i].f4 l[i].f5 && (i == 0 || (match l[i - 1]? with | some y => !decide (l[i].f3 < y.f3) | none => true))) := by unfold frOk; rw [List.getElem?_eq_getElem hi]
    rw [hq]
    rcases Bool.eq_false_or_eq_true (frameOk l[i].f0 l[i].f1 l[i].f2 l[i].f3 l[i].f4 l[i].f5) with hf | hf
    case inr => rw [hf]; simp
    case inl =>
      rw [hf, if_pos rfl, Bool.true_and]
      rcases Nat.eq_zero_or_pos i with h0 | h0
      · subst h0; simp
      · rw [if_pos (by omega), wrap_pred h0 hi (by omega), if_pos (by omega), if_pos (by omega), rdFr l (i - 1) (by omega), List.getElem?_eq_getElem (show i - 1 < l.length by omega)]
        simp only
        have : (i == 0) = false := by simp; omega
        rw [this, Bool.false_or]
        by_cases h2 : l[i].f3 < l[i - 1].f3 <;> simp [h2]
  · simp only [spec_BusOk.l0]
    rw [if_neg (by omega)]
theorem iBusOk (l : List Fr) (hl : l.length ≤ 1048576) (k : Nat) (hk : l.length < k) : impl_BusOk.f k l = some (busOk l) := by
  unfold impl_BusOk.f busOk
  refine all_loop0 (n := l.length) (L := fun k i => impl_BusOk.l0 k l l (l.length : Int) i) (Q := frOk l) (e := decide ((l.length : Int) ≤ 60)) (fun k i hi => ?_) (fun k => ?_) k hk
  · simp only [impl_BusOk.l0, iFrameOk, Option.bind_some]
    rw [if_pos (by omega), if_pos (by omega), if_pos (by omega), wrap_succ hi (by omega), rdFr l i hi]
    have hq : frOk l i = (frameOk l[i].f0 l[i].f1 l[i].f2 l[i].f3 l[i].f4 l[i].f5 && (i == 0 || (match l[i - 1]? with | some y => !decide (l[i].f3 < y.f3) | none => true))) := by unfold frOk; rw [List.getElem?_eq_getElem hi]
    rw [hq]
    rcases Bool.eq_false_or_eq_true (frameOk l[i].f0 l[i].f1 l[i].f2 l[i].f3 l[i].f4 l[i].f5) with hf | hf
    case inr => rw [hf]; simp
    case inl =>
      rw [hf, if_pos rfl, Bool.true_and]
      rcases Nat.eq_zero_or_pos i with h0 | h0
      · subst h0; simp
      · rw [if_pos (by omega), wrap_pred h0 hi (by omega), if_pos (by omega), if_pos (by omega), rdFr l (i - 1) (by omega), List.getElem?_eq_getElem (show i - 1 < l.length by omega)]
        simp only
        have : (i == 0) = false := by simp; omega
        rw [this, Bool.false_or]
        by_cases h2 : l[i].f3 < l[i - 1].f3 <;> simp [h2]
  · simp only [impl_BusOk.l0]
    rw [if_neg (by omega)]
end Go.Proofs.Ytjlmfnpgcmmdnaa.C
namespace Go.Proofs.Ytjlmfnpgcmmdnaa.P
open Go.RowKit Go.Proofs.YtjlmfnpgcmmdnaaW.PrintWords Go.Proofs.YtjlmfnpgcmmdnaaW.PrintLast Go.Proofs.YtjlmfnpgcmmdnaaW.PrintMore
attribute [local go_sem] max2_int min2_int max_two min_two max_three min_three max_four min_four
set_option linter.unusedVariables false
set_option linter.unusedSimpArgs false
end Go.Proofs.Ytjlmfnpgcmmdnaa.P

