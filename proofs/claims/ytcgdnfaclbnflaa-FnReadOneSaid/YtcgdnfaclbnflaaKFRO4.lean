/- Texts of the seat's proofs, part 4: functions of the program told as plain functions, with their contracts, and what is shown of them. No condition. -/
import Derived.Test.YtcgdnfaclbnflaaUKFRO
import Derived.Test.YtcgdnfaclbnflaaKFRO1
import Derived.Test.YtcgdnfaclbnflaaKFRO2
import Derived.Test.YtcgdnfaclbnflaaKFRO3
import Derived.Laws.Bits128
set_option linter.unusedVariables false
set_option linter.unusedSimpArgs false
namespace Go.Proofs.Ytcgdnfaclbnflaa.P
open Go.RowKit Go.Proofs.YtcgdnfaclbnflaaW.PrintWords Go.Proofs.YtcgdnfaclbnflaaW.PrintLast Go.Proofs.YtcgdnfaclbnflaaW.PrintMore
attribute [local go_sem] max2_int min2_int max_two min_two max_three min_three max_four min_four
set_option linter.unusedVariables false
set_option linter.unusedSimpArgs false
mutual
def laws_FnReadOne.j0 : Nat → Bool → Int → Bool → Bool → Bool → Int → Int → Int → Option (Bool)
  | 0, _, _, _, _, _, _, _, _ => none
  | k + 1, x4, x7, x8, x81, x866000, x866001, x867000, x867001 => if x81 = true then (some false) else (if x4 = true then ((impl_AppLag.f x866000 x866001 x867000 x867001).bind fun t879 => (if (x8 != (decide (t879 > 0))) = true then (laws_FnReadOne.j1 k x7 true) else (if x8 = true then (laws_FnReadOne.j1 k x7 false) else ((impl_Holds.f x867000 x867001 x7).bind fun t880 => (laws_FnReadOne.j1 k x7 (!t880)))))) else (laws_FnReadOne.j1 k x7 false))
def laws_FnReadOne.j1 : Nat → Int → Bool → Option (Bool)
  | 0, _, _ => none
  | k + 1, x7, x100 => if x100 = true then (some false) else ((some (([(⟨true, (⟨x7, x7⟩ : S81)⟩ : S83), (⟨true, (⟨wrap64 (x7 - 1), x7⟩ : S81)⟩ : S83)] : List (S83)) : List (S83))).bind fun y881 => (if (wrap64 (x7 - 1)) < (-1000000000000) then (some true) else ((impl_ReadsOk.f k y881 (([(⟨x7, false, 0⟩ : S88), (⟨x7, false, 0⟩ : S88)] : List (S88)))).bind fun t890 => (if t890 = true then ((impl_ReadsOk.f k y881 (([(⟨x7, false, 0⟩ : S88), (⟨wrap64 (x7 - 1), false, 0⟩ : S88)] : List (S88)))).bind fun t891 => (some (!t891))) else (some false)))))
end
def laws_FnReadOne.f (k : Nat) (l0 : List Int) : Option (Bool) := (laws_big.f l0).bind fun t859 => (if t859 = true then (some true) else ((spec_DrawAppRead.f k l0).bind fun bt860 => ((impl_AppRead.f k bt860.1 bt860.2.1 bt860.2.2.1 bt860.2.2.2.1 bt860.2.2.2.2).bind fun bt867 => ((spec_AppRead.f k bt860.1 bt860.2.1 bt860.2.2.1 bt860.2.2.2.1 bt860.2.2.2.2).bind fun bt873 => (if bt867.2.2.2.2 = bt873.2.2.2.2 then (if bt867.2.2.2.2 = 0 then (if bt867.1 = true then (if bt867.2.1 = bt867.2.2.1 then (if bt860.1 = true then (if bt867.2.2.1 < bt860.2.1 then (laws_FnReadOne.j0 k bt860.2.2.1 bt867.2.2.1 bt867.2.2.2.1 true bt860.1 bt860.2.1 bt860.2.2.2.1 bt860.2.2.2.2) else (if bt867.2.2.2.1 = true then (laws_FnReadOne.j0 k bt860.2.2.1 bt867.2.2.1 bt867.2.2.2.1 (bt867.2.2.1 != bt860.2.1) bt860.1 bt860.2.1 bt860.2.2.2.1 bt860.2.2.2.2) else (laws_FnReadOne.j0 k bt860.2.2.1 bt867.2.2.1 bt867.2.2.2.1 false bt860.1 bt860.2.1 bt860.2.2.2.1 bt860.2.2.2.2))) else (if bt867.2.2.2.1 = true then (laws_FnReadOne.j0 k bt860.2.2.1 bt867.2.2.1 bt867.2.2.2.1 (bt867.2.2.1 != bt860.2.1) bt860.1 bt860.2.1 bt860.2.2.2.1 bt860.2.2.2.2) else (laws_FnReadOne.j0 k bt860.2.2.1 bt867.2.2.1 bt867.2.2.2.1 false bt860.1 bt860.2.1 bt860.2.2.2.1 bt860.2.2.2.2))) else (laws_FnReadOne.j0 k bt860.2.2.1 bt867.2.2.1 bt867.2.2.2.1 true bt860.1 bt860.2.1 bt860.2.2.2.1 bt860.2.2.2.2)) else (laws_FnReadOne.j0 k bt860.2.2.1 bt867.2.2.1 bt867.2.2.2.1 true bt860.1 bt860.2.1 bt860.2.2.2.1 bt860.2.2.2.2)) else (if bt867.2.2.1 = 0 then (some (!bt867.2.2.2.1)) else (some false))) else (some false))))))
set_option maxHeartbeats 8000000 in
set_option maxRecDepth 100000 in
theorem laws_FnReadOne.calls (k : Nat) (A0 : Option Addr) (c0 : Nat) (l0 : List Int) (r : Bool) (w : World) (hr0 : Kd.C (Kd.int .u8) w A0 l0.length l0) (hc0 : l0.length ≤ c0) (hr_ : r = true) (h : laws_FnReadOne.f k l0 = some r) :
    Calls Try.prog 9 #[.slice A0 l0.length c0] w fun e w' => e = .returned (.bool r) ∧ Below w.heap.size w w' := by
  have hu66 := Try.underlying66
  have hu81 := Try.underlying81
  have hu83 := Try.underlying83
  have hu88 := Try.underlying88
  have HR0 := Aside0.mk hr0
  have HC0 := Aside0.mk hc0
  clear hr0 hc0
  have HB := Aside0.mk (Below.refl w.heap.size w)
  have H : ((laws_big.f l0).bind fun t859 => (if t859 = true then (some true) else ((spec_DrawAppRead.f k l0).bind fun bt860 => ((impl_AppRead.f k bt860.1 bt860.2.1 bt860.2.2.1 bt860.2.2.2.1 bt860.2.2.2.2).bind fun bt867 => ((spec_AppRead.f k bt860.1 bt860.2.1 bt860.2.2.1 bt860.2.2.2.1 bt860.2.2.2.2).bind fun bt873 => (if bt867.2.2.2.2 = bt873.2.2.2.2 then (if bt867.2.2.2.2 = 0 then (if bt867.1 = true then (if bt867.2.1 = bt867.2.2.1 then (if bt860.1 = true then (if bt867.2.2.1 < bt860.2.1 then (laws_FnReadOne.j0 k bt860.2.2.1 bt867.2.2.1 bt867.2.2.2.1 true bt860.1 bt860.2.1 bt860.2.2.2.1 bt860.2.2.2.2) else (if bt867.2.2.2.1 = true then (laws_FnReadOne.j0 k bt860.2.2.1 bt867.2.2.1 bt867.2.2.2.1 (bt867.2.2.1 != bt860.2.1) bt860.1 bt860.2.1 bt860.2.2.2.1 bt860.2.2.2.2) else (laws_FnReadOne.j0 k bt860.2.2.1 bt867.2.2.1 bt867.2.2.2.1 false bt860.1 bt860.2.1 bt860.2.2.2.1 bt860.2.2.2.2))) else (if bt867.2.2.2.1 = true then (laws_FnReadOne.j0 k bt860.2.2.1 bt867.2.2.1 bt867.2.2.2.1 (bt867.2.2.1 != bt860.2.1) bt860.1 bt860.2.1 bt860.2.2.2.1 bt860.2.2.2.2) else (laws_FnReadOne.j0 k bt860.2.2.1 bt867.2.2.1 bt867.2.2.2.1 false bt860.1 bt860.2.1 bt860.2.2.2.1 bt860.2.2.2.2))) else (laws_FnReadOne.j0 k bt860.2.2.1 bt867.2.2.1 bt867.2.2.2.1 true bt860.1 bt860.2.1 bt860.2.2.2.1 bt860.2.2.2.2)) else (laws_FnReadOne.j0 k bt860.2.2.1 bt867.2.2.1 bt867.2.2.2.1 true bt860.1 bt860.2.1 bt860.2.2.2.1 bt860.2.2.2.2)) else (if bt867.2.2.1 = 0 then (some (!bt867.2.2.2.1)) else (some false))) else (some false))))))) = some r := h
  clear h
  replace H := Option.bind_eq_some_iff.mp H
  obtain ⟨t859, A20, H⟩ := H
  replace H : (if t859 = true then (some true) else ((spec_DrawAppRead.f k l0).bind fun bt860 => ((impl_AppRead.f k bt860.1 bt860.2.1 bt860.2.2.1 bt860.2.2.2.1 bt860.2.2.2.2).bind fun bt867 => ((spec_AppRead.f k bt860.1 bt860.2.1 bt860.2.2.1 bt860.2.2.2.1 bt860.2.2.2.2).bind fun bt873 => (if bt867.2.2.2.2 = bt873.2.2.2.2 then (if bt867.2.2.2.2 = 0 then (if bt867.1 = true then (if bt867.2.1 = bt867.2.2.1 then (if bt860.1 = true then (if bt867.2.2.1 < bt860.2.1 then (laws_FnReadOne.j0 k bt860.2.2.1 bt867.2.2.1 bt867.2.2.2.1 true bt860.1 bt860.2.1 bt860.2.2.2.1 bt860.2.2.2.2) else (if bt867.2.2.2.1 = true then (laws_FnReadOne.j0 k bt860.2.2.1 bt867.2.2.1 bt867.2.2.2.1 (bt867.2.2.1 != bt860.2.1) bt860.1 bt860.2.1 bt860.2.2.2.1 bt860.2.2.2.2) else (laws_FnReadOne.j0 k bt860.2.2.1 bt867.2.2.1 bt867.2.2.2.1 false bt860.1 bt860.2.1 bt860.2.2.2.1 bt860.2.2.2.2))) else (if bt867.2.2.2.1 = true then (laws_FnReadOne.j0 k bt860.2.2.1 bt867.2.2.1 bt867.2.2.2.1 (bt867.2.2.1 != bt860.2.1) bt860.1 bt860.2.1 bt860.2.2.2.1 bt860.2.2.2.2) else (laws_FnReadOne.j0 k bt860.2.2.1 bt867.2.2.1 bt867.2.2.2.1 false bt860.1 bt860.2.1 bt860.2.2.2.1 bt860.2.2.2.2))) else (laws_FnReadOne.j0 k bt860.2.2.1 bt867.2.2.1 bt867.2.2.2.1 true bt860.1 bt860.2.1 bt860.2.2.2.1 bt860.2.2.2.2)) else (laws_FnReadOne.j0 k bt860.2.2.1 bt867.2.2.1 bt867.2.2.2.1 true bt860.1 bt860.2.1 bt860.2.2.2.1 bt860.2.2.2.2)) else (if bt867.2.2.1 = 0 then (some (!bt867.2.2.2.1)) else (some false))) else (some false)))))) = some r := H
  have A2 := Aside0.mk A20
  clear A20
  by_cases c3 : t859 = true
  · subst c3
    have H1 : (some true) = some r := by rw [if_pos rfl] at H; exact H
    clear H
    have H := H1
    clear H1
    obtain rfl := Option.some.inj H
    go_enter Try.func9, Try.ntmps9
    go_wp2_with (first | ((with_reducible refine gate_callee (f := 25) rfl ?_); refine goesL_ (some 18) rfl rfl Try.func25 (by kernel_rfl) rfl #[.slice A0 l0.length c0] rfl arr_ ?_; (with_reducible refine (laws_big.calls _ _ l0 true _ ?side1 ?side2 A2.out).mono ?_); (case side1 => repeat (first | exact HR0.out | (with_reducible refine Kd.C_alloc ?_ _) | (with_reducible refine Kd.C_drewN ?_ _) | (with_reducible refine Kd.C_drew ?_))); (case side2 => exact HC0.out); rintro e w' ⟨rfl, ⟨nd, rfl⟩⟩; refine ⟨_, rfl, ?_⟩))
    go_ret
    exact ⟨er_, hb_ HB.out⟩
  · replace c3 := Bool.eq_false_iff.mpr c3
    subst c3
    have H1 : ((spec_DrawAppRead.f k l0).bind fun bt860 => ((impl_AppRead.f k bt860.1 bt860.2.1 bt860.2.2.1 bt860.2.2.2.1 bt860.2.2.2.2).bind fun bt867 => ((spec_AppRead.f k bt860.1 bt860.2.1 bt860.2.2.1 bt860.2.2.2.1 bt860.2.2.2.2).bind fun bt873 => (if bt867.2.2.2.2 = bt873.2.2.2.2 then (if bt867.2.2.2.2 = 0 then (if bt867.1 = true then (if bt867.2.1 = bt867.2.2.1 then (if bt860.1 = true then (if bt867.2.2.1 < bt860.2.1 then (laws_FnReadOne.j0 k bt860.2.2.1 bt867.2.2.1 bt867.2.2.2.1 true bt860.1 bt860.2.1 bt860.2.2.2.1 bt860.2.2.2.2) else (if bt867.2.2.2.1 = true then (laws_FnReadOne.j0 k bt860.2.2.1 bt867.2.2.1 bt867.2.2.2.1 (bt867.2.2.1 != bt860.2.1) bt860.1 bt860.2.1 bt860.2.2.2.1 bt860.2.2.2.2) else (laws_FnReadOne.j0 k bt860.2.2.1 bt867.2.2.1 bt867.2.2.2.1 false bt860.1 bt860.2.1 bt860.2.2.2.1 bt860.2.2.2.2))) else (if bt867.2.2.2.1 = true then (laws_FnReadOne.j0 k bt860.2.2.1 bt867.2.2.1 bt867.2.2.2.1 (bt867.2.2.1 != bt860.2.1) bt860.1 bt860.2.1 bt860.2.2.2.1 bt860.2.2.2.2) else (laws_FnReadOne.j0 k bt860.2.2.1 bt867.2.2.1 bt867.2.2.2.1 false bt860.1 bt860.2.1 bt860.2.2.2.1 bt860.2.2.2.2))) else (laws_FnReadOne.j0 k bt860.2.2.1 bt867.2.2.1 bt867.2.2.2.1 true bt860.1 bt860.2.1 bt860.2.2.2.1 bt860.2.2.2.2)) else (laws_FnReadOne.j0 k bt860.2.2.1 bt867.2.2.1 bt867.2.2.2.1 true bt860.1 bt860.2.1 bt860.2.2.2.1 bt860.2.2.2.2)) else (if bt867.2.2.1 = 0 then (some (!bt867.2.2.2.1)) else (some false))) else (some false))))) = some r := by rw [if_neg (show ¬ (false = true) by decide)] at H; exact H
    clear H
    have H := H1
    clear H1
    replace H := Option.bind_eq_some_iff.mp H
    obtain ⟨⟨t860, t861, t862, t863, t864⟩, A40, H⟩ := H
    replace H : ((impl_AppRead.f k t860 t861 t862 t863 t864).bind fun bt867 => ((spec_AppRead.f k t860 t861 t862 t863 t864).bind fun bt873 => (if bt867.2.2.2.2 = bt873.2.2.2.2 then (if bt867.2.2.2.2 = 0 then (if bt867.1 = true then (if bt867.2.1 = bt867.2.2.1 then (if t860 = true then (if bt867.2.2.1 < t861 then (laws_FnReadOne.j0 k t862 bt867.2.2.1 bt867.2.2.2.1 true t860 t861 t863 t864) else (if bt867.2.2.2.1 = true then (laws_FnReadOne.j0 k t862 bt867.2.2.1 bt867.2.2.2.1 (bt867.2.2.1 != t861) t860 t861 t863 t864) else (laws_FnReadOne.j0 k t862 bt867.2.2.1 bt867.2.2.2.1 false t860 t861 t863 t864))) else (if bt867.2.2.2.1 = true then (laws_FnReadOne.j0 k t862 bt867.2.2.1 bt867.2.2.2.1 (bt867.2.2.1 != t861) t860 t861 t863 t864) else (laws_FnReadOne.j0 k t862 bt867.2.2.1 bt867.2.2.2.1 false t860 t861 t863 t864))) else (laws_FnReadOne.j0 k t862 bt867.2.2.1 bt867.2.2.2.1 true t860 t861 t863 t864)) else (laws_FnReadOne.j0 k t862 bt867.2.2.1 bt867.2.2.2.1 true t860 t861 t863 t864)) else (if bt867.2.2.1 = 0 then (some (!bt867.2.2.2.1)) else (some false))) else (some false)))) = some r := H
    have A4 := Aside0.mk A40
    clear A40
    replace H := Option.bind_eq_some_iff.mp H
    obtain ⟨⟨t867, t868, t869, t870, t871⟩, A50, H⟩ := H
    replace H : ((spec_AppRead.f k t860 t861 t862 t863 t864).bind fun bt873 => (if t871 = bt873.2.2.2.2 then (if t871 = 0 then (if t867 = true then (if t868 = t869 then (if t860 = true then (if t869 < t861 then (laws_FnReadOne.j0 k t862 t869 t870 true t860 t861 t863 t864) else (if t870 = true then (laws_FnReadOne.j0 k t862 t869 t870 (t869 != t861) t860 t861 t863 t864) else (laws_FnReadOne.j0 k t862 t869 t870 false t860 t861 t863 t864))) else (if t870 = true then (laws_FnReadOne.j0 k t862 t869 t870 (t869 != t861) t860 t861 t863 t864) else (laws_FnReadOne.j0 k t862 t869 t870 false t860 t861 t863 t864))) else (laws_FnReadOne.j0 k t862 t869 t870 true t860 t861 t863 t864)) else (laws_FnReadOne.j0 k t862 t869 t870 true t860 t861 t863 t864)) else (if t869 = 0 then (some (!t870)) else (some false))) else (some false))) = some r := H
    have A5 := Aside0.mk A50
    clear A50
    replace H := Option.bind_eq_some_iff.mp H
    obtain ⟨⟨t873, t874, t875, t876, t877⟩, A60, H⟩ := H
    replace H : (if t871 = t877 then (if t871 = 0 then (if t867 = true then (if t868 = t869 then (if t860 = true then (if t869 < t861 then (laws_FnReadOne.j0 k t862 t869 t870 true t860 t861 t863 t864) else (if t870 = true then (laws_FnReadOne.j0 k t862 t869 t870 (t869 != t861) t860 t861 t863 t864) else (laws_FnReadOne.j0 k t862 t869 t870 false t860 t861 t863 t864))) else (if t870 = true then (laws_FnReadOne.j0 k t862 t869 t870 (t869 != t861) t860 t861 t863 t864) else (laws_FnReadOne.j0 k t862 t869 t870 false t860 t861 t863 t864))) else (laws_FnReadOne.j0 k t862 t869 t870 true t860 t861 t863 t864)) else (laws_FnReadOne.j0 k t862 t869 t870 true t860 t861 t863 t864)) else (if t869 = 0 then (some (!t870)) else (some false))) else (some false)) = some r := H
    have A6 := Aside0.mk A60
    clear A60
    by_cases c7 : t871 = t877
    · rw [if_pos c7] at H
      have c7b0 : (t871 == t877) = true := beq_iff_eq.mpr c7
      have c7b1 : (t871 != t877) = false := bne_eq_false_iff_eq.mpr c7
      clear c7
      by_cases c8 : t871 = 0
      · rw [if_pos c8] at H
        have c8b0 : (t871 == 0) = true := beq_iff_eq.mpr c8
        have c8b1 : (t871 != 0) = false := bne_eq_false_iff_eq.mpr c8
        clear c8
        have HC9 := Aside0.mk H
        clear H
        go_enter Try.func9, Try.ntmps9
        go_upto_region 10 with (first | ((with_reducible refine gate_callee (f := 25) rfl ?_); refine goesL_ (some 18) rfl rfl Try.func25 (by kernel_rfl) rfl #[.slice A0 l0.length c0] rfl arr_ ?_; (with_reducible refine (laws_big.calls _ _ l0 false _ ?side1 ?side2 A2.out).mono ?_); (case side1 => repeat (first | exact HR0.out | (with_reducible refine Kd.C_alloc ?_ _) | (with_reducible refine Kd.C_drewN ?_ _) | (with_reducible refine Kd.C_drew ?_))); (case side2 => exact HC0.out); rintro e w' ⟨rfl, ⟨nd, rfl⟩⟩; refine ⟨_, rfl, ?_⟩) | ((with_reducible refine gate_callee (f := 52) rfl ?_); refine goesL_ (some 21) rfl rfl Try.func52 (by kernel_rfl) rfl #[.slice A0 l0.length c0] rfl arr_ ?_; (with_reducible refine (spec_DrawAppRead.calls k _ _ l0 t860 t861 t862 t863 t864 _ ?side1 ?side2 A4.out).mono ?_); (case side1 => repeat (first | exact HR0.out | (with_reducible refine Kd.C_alloc ?_ _) | (with_reducible refine Kd.C_drewN ?_ _) | (with_reducible refine Kd.C_drew ?_))); (case side2 => exact HC0.out); rintro e w10 ⟨rfl, hb⟩; refine ⟨_, rfl, ?_⟩; have n0_ := Aside0.mk (below_step (hb_ HB.out) hb); clear HB; have HB := n0_; clear n0_; (try clear hb); (try clear hb2); (try clear hk); (try clear hi)) | ((with_reducible refine gate_dst (N := 3) rfl ?_); refine box_event ?hg (N := 3) ?hd (cs := #[.bool false, .int .i64 0]) (t := 66) ?hr ?_; (case hd => rfl); (case hg => rfl); (case hr => first | (go_simp; done) | (go_simp; rfl)); intro gb865 hg w11 hbox hb; have n0_ := Aside0.mk (below_step (hb_ HB.out) hb); have n1_ := Aside0.mk (hbox); have n2_ := Aside0.mk ((by rw [hg]; exact (below_size (hb_ HB.out)) : w.heap.size ≤ gb865)); have n3_ := Aside0.mk ((by rw [hg]; exact (below_size (hb_ HB.out)) : w.heap.size ≤ gb865)); clear HB; have HB := n0_; have BK865 := n1_; have GW865 := n2_; have GE865 := n3_; clear n0_ n1_ n2_ n3_; clear hb hbox hg) | ((with_reducible refine gate_dst (N := 5) rfl ?_); refine box_event ?hg (N := 5) ?hd (cs := #[.int .i64 0, .int .i64 0]) (t := 81) ?hr ?_; (case hd => rfl); (case hg => rfl); (case hr => first | (go_simp; done) | (go_simp; rfl)); intro gb866 hg w12 hbox hb; have n0_ := Aside0.mk (bb_ BK865.out hb); have n1_ := Aside0.mk (below_step (hb1_ HB.out GE865.out) hb); have n2_ := Aside0.mk (hbox); have n3_ := Aside0.mk ((by rw [hg]; exact (below_size (hb1_ HB.out GE865.out)) : w.heap.size ≤ gb866)); have n4_ := Aside0.mk ((by rw [hg]; exact (below_size (hb1_ HB.out GE865.out)) : w.heap.size ≤ gb866)); have n5_ := Aside0.mk ((bl_ hg BK865.out : gb865 ≠ gb866)); have n6_ := Aside0.mk ((bg_ hg BK865.out : gb866 ≠ gb865)); clear BK865; clear HB; have BK865 := n0_; have HB := n1_; have BK866 := n2_; have GW866 := n3_; have GE866 := n4_; have NB865_866 := n5_; have NB866_865 := n6_; clear n0_ n1_ n2_ n3_ n4_ n5_ n6_; clear hb hbox hg; have hnb13 := NB865_866.out; have hnc13 := NB866_865.out; have hcz14_0 := bc_ BK865.out 0 (.bool false) rfl; have hcz14_1 := bc_ BK865.out 1 (.int .i64 0) rfl; have hfz14_0 := blk_frozen BK865.out 0; have hfz14_1 := blk_frozen BK865.out 1; have hcz15_0 := bc_ BK866.out 0 (.int .i64 0) rfl; have hcz15_1 := bc_ BK866.out 1 (.int .i64 0) rfl; have hfz15_0 := blk_frozen BK866.out 0; have hfz15_1 := blk_frozen BK866.out 1) | ((with_reducible refine gate_callee (f := 53) rfl ?_); refine goesL_ (some 29) rfl rfl Try.func53 (by kernel_rfl) rfl #[.agg #[.bool t860, .int .i64 t861], .bool t862, .agg #[.int .i64 t863, .int .i64 t864]] rfl arr_ ?_; (with_reducible refine (impl_AppRead.calls k t860 t861 t862 t863 t864 t867 t868 t869 t870 t871 _ A5.out).mono ?_); rintro e w16 ⟨rfl, hb⟩; refine ⟨_, rfl, ?_⟩; have n0_ := Aside0.mk (blk_below (g := gb865) (o := .cells #[.bool t860, .int .i64 t861] 66 (0, 0)) (by (with_reducible repeat (first | refine blk_drewN ?_ _ | refine blk_drew ?_ | refine blk_alloc ?_ _)); refine blk_far ?_ NB865_866.out _; (with_reducible repeat (first | refine blk_drewN ?_ _ | refine blk_drew ?_ | refine blk_alloc ?_ _)); refine blk_far ?_ NB865_866.out _; (with_reducible repeat (first | refine blk_drewN ?_ _ | refine blk_drew ?_ | refine blk_alloc ?_ _)); refine blk_put (cs := #[.bool t860, .int .i64 0]) ?_ 1 _ rfl; (with_reducible repeat (first | refine blk_drewN ?_ _ | refine blk_drew ?_ | refine blk_alloc ?_ _)); refine blk_put (cs := #[.bool false, .int .i64 0]) ?_ 0 _ rfl; (with_reducible repeat (first | refine blk_drewN ?_ _ | refine blk_drew ?_ | refine blk_alloc ?_ _)); exact BK865.out) hb); have n1_ := Aside0.mk (blk_below (g := gb866) (o := .cells #[.int .i64 t863, .int .i64 t864] 81 (0, 0)) (by (with_reducible repeat (first | refine blk_drewN ?_ _ | refine blk_drew ?_ | refine blk_alloc ?_ _)); refine blk_put (cs := #[.int .i64 t863, .int .i64 0]) ?_ 1 _ rfl; (with_reducible repeat (first | refine blk_drewN ?_ _ | refine blk_drew ?_ | refine blk_alloc ?_ _)); refine blk_put (cs := #[.int .i64 0, .int .i64 0]) ?_ 0 _ rfl; (with_reducible repeat (first | refine blk_drewN ?_ _ | refine blk_drew ?_ | refine blk_alloc ?_ _)); refine blk_far ?_ NB866_865.out _; (with_reducible repeat (first | refine blk_drewN ?_ _ | refine blk_drew ?_ | refine blk_alloc ?_ _)); refine blk_far ?_ NB866_865.out _; (with_reducible repeat (first | refine blk_drewN ?_ _ | refine blk_drew ?_ | refine blk_alloc ?_ _)); exact BK866.out) hb); have n2_ := Aside0.mk (below_step (hb2_ HB.out GE865.out GE866.out) hb); clear BK865; clear BK866; clear HB; have BK865 := n0_; have BK866 := n1_; have HB := n2_; clear n0_ n1_ n2_; (try clear hb); (try clear hb2); (try clear hk); (try clear hi)) | ((with_reducible refine gate_dst (N := 6) rfl ?_); refine box_event ?hg (N := 6) ?hd (cs := #[.bool false, .int .i64 0]) (t := 66) ?hr ?_; (case hd => rfl); (case hg => rfl); (case hr => first | (go_simp; done) | (go_simp; rfl)); intro gb872 hg w17 hbox hb; have n0_ := Aside0.mk (bb_ BK865.out hb); have n1_ := Aside0.mk (bb_ BK866.out hb); have n2_ := Aside0.mk (below_step (hb2_ HB.out GE865.out GE866.out) hb); have n3_ := Aside0.mk (hbox); have n4_ := Aside0.mk ((by rw [hg]; exact (below_size (hb2_ HB.out GE865.out GE866.out)) : w.heap.size ≤ gb872)); have n5_ := Aside0.mk ((by rw [hg]; exact (below_size (hb2_ HB.out GE865.out GE866.out)) : w.heap.size ≤ gb872)); have n6_ := Aside0.mk ((bl_ hg BK865.out : gb865 ≠ gb872)); have n7_ := Aside0.mk ((bg_ hg BK865.out : gb872 ≠ gb865)); have n8_ := Aside0.mk ((bl_ hg BK866.out : gb866 ≠ gb872)); have n9_ := Aside0.mk ((bg_ hg BK866.out : gb872 ≠ gb866)); clear BK865; clear BK866; clear HB; have BK865 := n0_; have BK866 := n1_; have HB := n2_; have BK872 := n3_; have GW872 := n4_; have GE872 := n5_; have NB865_872 := n6_; have NB872_865 := n7_; have NB866_872 := n8_; have NB872_866 := n9_; clear n0_ n1_ n2_ n3_ n4_ n5_ n6_ n7_ n8_ n9_; clear hb hbox hg; have hnb18 := NB872_865.out; have hnc18 := NB865_872.out; have hnb19 := NB872_866.out; have hnc19 := NB866_872.out; have hcz20_0 := bc_ BK872.out 0 (.bool false) rfl; have hcz20_1 := bc_ BK872.out 1 (.int .i64 0) rfl; have hfz20_0 := blk_frozen BK872.out 0; have hfz20_1 := blk_frozen BK872.out 1; have hcz21_0 := bc_ BK865.out 0 (.bool t860) rfl; have hcz21_1 := bc_ BK865.out 1 (.int .i64 t861) rfl; have hfz21_0 := blk_frozen BK865.out 0; have hfz21_1 := blk_frozen BK865.out 1; have hcz22_0 := bc_ BK866.out 0 (.int .i64 t863) rfl; have hcz22_1 := bc_ BK866.out 1 (.int .i64 t864) rfl; have hfz22_0 := blk_frozen BK866.out 0; have hfz22_1 := blk_frozen BK866.out 1) | ((with_reducible refine gate_callee (f := 54) rfl ?_); refine goesL_ (some 38) rfl rfl Try.func54 (by kernel_rfl) rfl #[.agg #[.bool t860, .int .i64 t861], .bool t862, .agg #[.int .i64 t863, .int .i64 t864]] rfl arr_ ?_; (with_reducible refine (spec_AppRead.calls k t860 t861 t862 t863 t864 t873 t874 t875 t876 t877 _ A6.out).mono ?_); rintro e w23 ⟨rfl, hb⟩; refine ⟨_, rfl, ?_⟩; have n0_ := Aside0.mk (blk_below (g := gb865) (o := .cells #[.bool t860, .int .i64 t861] 66 (0, 0)) (by (with_reducible repeat (first | refine blk_drewN ?_ _ | refine blk_drew ?_ | refine blk_alloc ?_ _)); refine blk_far ?_ NB865_872.out _; (with_reducible repeat (first | refine blk_drewN ?_ _ | refine blk_drew ?_ | refine blk_alloc ?_ _)); refine blk_far ?_ NB865_872.out _; (with_reducible repeat (first | refine blk_drewN ?_ _ | refine blk_drew ?_ | refine blk_alloc ?_ _)); exact BK865.out) hb); have n1_ := Aside0.mk (blk_below (g := gb866) (o := .cells #[.int .i64 t863, .int .i64 t864] 81 (0, 0)) (by (with_reducible repeat (first | refine blk_drewN ?_ _ | refine blk_drew ?_ | refine blk_alloc ?_ _)); refine blk_far ?_ NB866_872.out _; (with_reducible repeat (first | refine blk_drewN ?_ _ | refine blk_drew ?_ | refine blk_alloc ?_ _)); refine blk_far ?_ NB866_872.out _; (with_reducible repeat (first | refine blk_drewN ?_ _ | refine blk_drew ?_ | refine blk_alloc ?_ _)); exact BK866.out) hb); have n2_ := Aside0.mk (blk_below (g := gb872) (o := .cells #[.bool t867, .int .i64 t868] 66 (0, 0)) (by (with_reducible repeat (first | refine blk_drewN ?_ _ | refine blk_drew ?_ | refine blk_alloc ?_ _)); refine blk_put (cs := #[.bool t867, .int .i64 0]) ?_ 1 _ rfl; (with_reducible repeat (first | refine blk_drewN ?_ _ | refine blk_drew ?_ | refine blk_alloc ?_ _)); refine blk_put (cs := #[.bool false, .int .i64 0]) ?_ 0 _ rfl; (with_reducible repeat (first | refine blk_drewN ?_ _ | refine blk_drew ?_ | refine blk_alloc ?_ _)); exact BK872.out) hb); have n3_ := Aside0.mk (below_step (hb3_ HB.out GE865.out GE866.out GE872.out) hb); clear BK865; clear BK866; clear BK872; clear HB; have BK865 := n0_; have BK866 := n1_; have BK872 := n2_; have HB := n3_; clear n0_ n1_ n2_ n3_; (try clear hb); (try clear hb2); (try clear hk); (try clear hi)) | ((with_reducible refine gate_dst (N := 10) rfl ?_); refine box_event ?hg (N := 10) ?hd (cs := #[.bool false, .int .i64 0]) (t := 66) ?hr ?_; (case hd => rfl); (case hg => rfl); (case hr => first | (go_simp; done) | (go_simp; rfl)); intro gb878 hg w24 hbox hb; have n0_ := Aside0.mk (bb_ BK865.out hb); have n1_ := Aside0.mk (bb_ BK866.out hb); have n2_ := Aside0.mk (bb_ BK872.out hb); have n3_ := Aside0.mk (below_step (hb3_ HB.out GE865.out GE866.out GE872.out) hb); have n4_ := Aside0.mk (hbox); have n5_ := Aside0.mk ((by rw [hg]; exact (below_size (hb3_ HB.out GE865.out GE866.out GE872.out)) : w.heap.size ≤ gb878)); have n6_ := Aside0.mk ((by rw [hg]; exact (below_size (hb3_ HB.out GE865.out GE866.out GE872.out)) : w.heap.size ≤ gb878)); have n7_ := Aside0.mk ((bl_ hg BK865.out : gb865 ≠ gb878)); have n8_ := Aside0.mk ((bg_ hg BK865.out : gb878 ≠ gb865)); have n9_ := Aside0.mk ((bl_ hg BK866.out : gb866 ≠ gb878)); have n10_ := Aside0.mk ((bg_ hg BK866.out : gb878 ≠ gb866)); have n11_ := Aside0.mk ((bl_ hg BK872.out : gb872 ≠ gb878)); have n12_ := Aside0.mk ((bg_ hg BK872.out : gb878 ≠ gb872)); clear BK865; clear BK866; clear BK872; clear HB; have BK865 := n0_; have BK866 := n1_; have BK872 := n2_; have HB := n3_; have BK878 := n4_; have GW878 := n5_; have GE878 := n6_; have NB865_878 := n7_; have NB878_865 := n8_; have NB866_878 := n9_; have NB878_866 := n10_; have NB872_878 := n11_; have NB878_872 := n12_; clear n0_ n1_ n2_ n3_ n4_ n5_ n6_ n7_ n8_ n9_ n10_ n11_ n12_; clear hb hbox hg; have hnb25 := NB878_865.out; have hnc25 := NB865_878.out; have hnb26 := NB878_866.out; have hnc26 := NB866_878.out; have hnb27 := NB878_872.out; have hnc27 := NB872_878.out; have hcz28_0 := bc_ BK878.out 0 (.bool false) rfl; have hcz28_1 := bc_ BK878.out 1 (.int .i64 0) rfl; have hfz28_0 := blk_frozen BK878.out 0; have hfz28_1 := blk_frozen BK878.out 1))
        (try simp only [Act.put, List.setIfInBounds_toArray, List.set_cons_zero, List.set_cons_succ])
        go_cut [81] (fun v81 wc => ∃ (kq : Nat) (x81_8 : Bool), v81 = .bool x81_8 ∧ Aside0 (laws_FnReadOne.j0 kq t862 t869 t870 x81_8 t860 t861 t863 t864 = some r) ∧ Aside0 (kq ≤ k) ∧ Aside0 (wc.heap[gb865]? = some (.cells #[.bool t860, .int .i64 t861] 66 (0, 0))) ∧ Aside0 (wc.heap[gb866]? = some (.cells #[.int .i64 t863, .int .i64 t864] 81 (0, 0))) ∧ Aside0 (wc.heap[gb872]? = some (.cells #[.bool t867, .int .i64 t868] 66 (0, 0))) ∧ Aside0 (wc.heap[gb878]? = some (.cells #[.bool t873, .int .i64 t874] 66 (0, 0))) ∧ Aside0 (Below w.heap.size w wc))
        case first =>
          have H := HC9.out
          clear HC9
          by_cases c29 : t867 = true
          · subst c29
            have H1 : (if t868 = t869 then (if t860 = true then (if t869 < t861 then (laws_FnReadOne.j0 k t862 t869 t870 true t860 t861 t863 t864) else (if t870 = true then (laws_FnReadOne.j0 k t862 t869 t870 (t869 != t861) t860 t861 t863 t864) else (laws_FnReadOne.j0 k t862 t869 t870 false t860 t861 t863 t864))) else (if t870 = true then (laws_FnReadOne.j0 k t862 t869 t870 (t869 != t861) t860 t861 t863 t864) else (laws_FnReadOne.j0 k t862 t869 t870 false t860 t861 t863 t864))) else (laws_FnReadOne.j0 k t862 t869 t870 true t860 t861 t863 t864)) = some r := by rw [if_pos rfl] at H; exact H
            clear H
            have H := H1
            clear H1
            by_cases c30 : t868 = t869
            · rw [if_pos c30] at H
              have c30b0 : (t868 == t869) = true := beq_iff_eq.mpr c30
              have c30b1 : (t868 != t869) = false := bne_eq_false_iff_eq.mpr c30
              clear c30
              (first | rw [c30b0] | (simp only [i64_w, i32_w]; rw [c30b0]) | skip)
              by_cases c31 : t860 = true
              · subst c31
                have H1 : (if t869 < t861 then (laws_FnReadOne.j0 k t862 t869 t870 true true t861 t863 t864) else (if t870 = true then (laws_FnReadOne.j0 k t862 t869 t870 (t869 != t861) true t861 t863 t864) else (laws_FnReadOne.j0 k t862 t869 t870 false true t861 t863 t864))) = some r := by rw [if_pos rfl] at H; exact H
                clear H
                have H := H1
                clear H1
                by_cases c32 : t869 < t861
                · rw [if_pos c32] at H
                  have c32b0 : decide (t869 < t861) = true := decide_eq_true c32
                  clear c32
                  have H' := Aside0.mk H
                  clear H
                  have hnb33 := NB872_865.out
                  have hnc33 := NB865_872.out
                  have hnb34 := NB872_866.out
                  have hnc34 := NB866_872.out
                  have hnb35 := NB872_878.out
                  have hnc35 := NB878_872.out
                  have hcz36_0 := bc_ BK872.out 0 (.bool true) rfl
                  have hcz36_1 := bc_ BK872.out 1 (.int .i64 t868) rfl
                  have hfz36_0 := blk_frozen BK872.out 0
                  have hfz36_1 := blk_frozen BK872.out 1
                  have hnb37 := NB865_866.out
                  have hnc37 := NB866_865.out
                  have hnb38 := NB865_878.out
                  have hnc38 := NB878_865.out
                  have hcz39_0 := bc_ BK865.out 0 (.bool true) rfl
                  have hcz39_1 := bc_ BK865.out 1 (.int .i64 t861) rfl
                  have hfz39_0 := blk_frozen BK865.out 0
                  have hfz39_1 := blk_frozen BK865.out 1
                  go_wp2
                  go_meet
                  case rel => exact ⟨_, (true), (by first | rfl | (simp; done) | (simp [*]; done)), H', ⟨by first | omega | exact Nat.le_refl _⟩, ⟨by (with_reducible repeat (first | refine blk_drewN ?_ _ | refine blk_drew ?_ | refine blk_alloc ?_ _)); refine blk_far ?_ NB865_878.out _; (with_reducible repeat (first | refine blk_drewN ?_ _ | refine blk_drew ?_ | refine blk_alloc ?_ _)); refine blk_far ?_ NB865_878.out _; (with_reducible repeat (first | refine blk_drewN ?_ _ | refine blk_drew ?_ | refine blk_alloc ?_ _)); exact BK865.out⟩, ⟨by (with_reducible repeat (first | refine blk_drewN ?_ _ | refine blk_drew ?_ | refine blk_alloc ?_ _)); refine blk_far ?_ NB866_878.out _; (with_reducible repeat (first | refine blk_drewN ?_ _ | refine blk_drew ?_ | refine blk_alloc ?_ _)); refine blk_far ?_ NB866_878.out _; (with_reducible repeat (first | refine blk_drewN ?_ _ | refine blk_drew ?_ | refine blk_alloc ?_ _)); exact BK866.out⟩, ⟨by (with_reducible repeat (first | refine blk_drewN ?_ _ | refine blk_drew ?_ | refine blk_alloc ?_ _)); refine blk_far ?_ NB872_878.out _; (with_reducible repeat (first | refine blk_drewN ?_ _ | refine blk_drew ?_ | refine blk_alloc ?_ _)); refine blk_far ?_ NB872_878.out _; (with_reducible repeat (first | refine blk_drewN ?_ _ | refine blk_drew ?_ | refine blk_alloc ?_ _)); exact BK872.out⟩, ⟨by (with_reducible repeat (first | refine blk_drewN ?_ _ | refine blk_drew ?_ | refine blk_alloc ?_ _)); refine blk_put (cs := #[.bool t873, .int .i64 0]) ?_ 1 _ rfl; (with_reducible repeat (first | refine blk_drewN ?_ _ | refine blk_drew ?_ | refine blk_alloc ?_ _)); refine blk_put (cs := #[.bool false, .int .i64 0]) ?_ 0 _ rfl; (with_reducible repeat (first | refine blk_drewN ?_ _ | refine blk_drew ?_ | refine blk_alloc ?_ _)); exact BK878.out⟩, ⟨hb4_ HB.out GE865.out GE866.out GE872.out GE878.out⟩⟩
                · rw [if_neg c32] at H
                  have c32b0 : decide (t869 < t861) = false := decide_eq_false c32
                  clear c32
                  by_cases c40 : t870 = true
                  · subst c40
                    have H1 : (laws_FnReadOne.j0 k t862 t869 true (t869 != t861) true t861 t863 t864) = some r := by rw [if_pos rfl] at H; exact H
                    clear H
                    have H := H1
                    clear H1
                    have H' := Aside0.mk H
                    clear H
                    have hnb41 := NB872_865.out
                    have hnc41 := NB865_872.out
                    have hnb42 := NB872_866.out
                    have hnc42 := NB866_872.out
                    have hnb43 := NB872_878.out
                    have hnc43 := NB878_872.out
                    have hcz44_0 := bc_ BK872.out 0 (.bool true) rfl
                    have hcz44_1 := bc_ BK872.out 1 (.int .i64 t868) rfl
                    have hfz44_0 := blk_frozen BK872.out 0
                    have hfz44_1 := blk_frozen BK872.out 1
                    have hnb45 := NB865_866.out
                    have hnc45 := NB866_865.out
                    have hnb46 := NB865_878.out
                    have hnc46 := NB878_865.out
                    have hcz47_0 := bc_ BK865.out 0 (.bool true) rfl
                    have hcz47_1 := bc_ BK865.out 1 (.int .i64 t861) rfl
                    have hfz47_0 := blk_frozen BK865.out 0
                    have hfz47_1 := blk_frozen BK865.out 1
                    go_wp2
                    go_meet
                    case rel => exact ⟨_, ((t869 != t861)), (by first | rfl | (simp; done) | (simp [*]; done)), H', ⟨by first | omega | exact Nat.le_refl _⟩, ⟨by (with_reducible repeat (first | refine blk_drewN ?_ _ | refine blk_drew ?_ | refine blk_alloc ?_ _)); refine blk_far ?_ NB865_878.out _; (with_reducible repeat (first | refine blk_drewN ?_ _ | refine blk_drew ?_ | refine blk_alloc ?_ _)); refine blk_far ?_ NB865_878.out _; (with_reducible repeat (first | refine blk_drewN ?_ _ | refine blk_drew ?_ | refine blk_alloc ?_ _)); exact BK865.out⟩, ⟨by (with_reducible repeat (first | refine blk_drewN ?_ _ | refine blk_drew ?_ | refine blk_alloc ?_ _)); refine blk_far ?_ NB866_878.out _; (with_reducible repeat (first | refine blk_drewN ?_ _ | refine blk_drew ?_ | refine blk_alloc ?_ _)); refine blk_far ?_ NB866_878.out _; (with_reducible repeat (first | refine blk_drewN ?_ _ | refine blk_drew ?_ | refine blk_alloc ?_ _)); exact BK866.out⟩, ⟨by (with_reducible repeat (first | refine blk_drewN ?_ _ | refine blk_drew ?_ | refine blk_alloc ?_ _)); refine blk_far ?_ NB872_878.out _; (with_reducible repeat (first | refine blk_drewN ?_ _ | refine blk_drew ?_ | refine blk_alloc ?_ _)); refine blk_far ?_ NB872_878.out _; (with_reducible repeat (first | refine blk_drewN ?_ _ | refine blk_drew ?_ | refine blk_alloc ?_ _)); exact BK872.out⟩, ⟨by (with_reducible repeat (first | refine blk_drewN ?_ _ | refine blk_drew ?_ | refine blk_alloc ?_ _)); refine blk_put (cs := #[.bool t873, .int .i64 0]) ?_ 1 _ rfl; (with_reducible repeat (first | refine blk_drewN ?_ _ | refine blk_drew ?_ | refine blk_alloc ?_ _)); refine blk_put (cs := #[.bool false, .int .i64 0]) ?_ 0 _ rfl; (with_reducible repeat (first | refine blk_drewN ?_ _ | refine blk_drew ?_ | refine blk_alloc ?_ _)); exact BK878.out⟩, ⟨hb4_ HB.out GE865.out GE866.out GE872.out GE878.out⟩⟩
                  · replace c40 := Bool.eq_false_iff.mpr c40
                    subst c40
                    have H1 : (laws_FnReadOne.j0 k t862 t869 false false true t861 t863 t864) = some r := by rw [if_neg (show ¬ (false = true) by decide)] at H; exact H
                    clear H
                    have H := H1
                    clear H1
                    have H' := Aside0.mk H
                    clear H
                    have hnb48 := NB872_865.out
                    have hnc48 := NB865_872.out
                    have hnb49 := NB872_866.out
                    have hnc49 := NB866_872.out
                    have hnb50 := NB872_878.out
                    have hnc50 := NB878_872.out
                    have hcz51_0 := bc_ BK872.out 0 (.bool true) rfl
                    have hcz51_1 := bc_ BK872.out 1 (.int .i64 t868) rfl
                    have hfz51_0 := blk_frozen BK872.out 0
                    have hfz51_1 := blk_frozen BK872.out 1
                    have hnb52 := NB865_866.out
                    have hnc52 := NB866_865.out
                    have hnb53 := NB865_878.out
                    have hnc53 := NB878_865.out
                    have hcz54_0 := bc_ BK865.out 0 (.bool true) rfl
                    have hcz54_1 := bc_ BK865.out 1 (.int .i64 t861) rfl
                    have hfz54_0 := blk_frozen BK865.out 0
                    have hfz54_1 := blk_frozen BK865.out 1
                    go_wp2
                    go_meet
                    case rel => exact ⟨_, (false), (by first | rfl | (simp; done) | (simp [*]; done)), H', ⟨by first | omega | exact Nat.le_refl _⟩, ⟨by (with_reducible repeat (first | refine blk_drewN ?_ _ | refine blk_drew ?_ | refine blk_alloc ?_ _)); refine blk_far ?_ NB865_878.out _; (with_reducible repeat (first | refine blk_drewN ?_ _ | refine blk_drew ?_ | refine blk_alloc ?_ _)); refine blk_far ?_ NB865_878.out _; (with_reducible repeat (first | refine blk_drewN ?_ _ | refine blk_drew ?_ | refine blk_alloc ?_ _)); exact BK865.out⟩, ⟨by (with_reducible repeat (first | refine blk_drewN ?_ _ | refine blk_drew ?_ | refine blk_alloc ?_ _)); refine blk_far ?_ NB866_878.out _; (with_reducible repeat (first | refine blk_drewN ?_ _ | refine blk_drew ?_ | refine blk_alloc ?_ _)); refine blk_far ?_ NB866_878.out _; (with_reducible repeat (first | refine blk_drewN ?_ _ | refine blk_drew ?_ | refine blk_alloc ?_ _)); exact BK866.out⟩, ⟨by (with_reducible repeat (first | refine blk_drewN ?_ _ | refine blk_drew ?_ | refine blk_alloc ?_ _)); refine blk_far ?_ NB872_878.out _; (with_reducible repeat (first | refine blk_drewN ?_ _ | refine blk_drew ?_ | refine blk_alloc ?_ _)); refine blk_far ?_ NB872_878.out _; (with_reducible repeat (first | refine blk_drewN ?_ _ | refine blk_drew ?_ | refine blk_alloc ?_ _)); exact BK872.out⟩, ⟨by (with_reducible repeat (first | refine blk_drewN ?_ _ | refine blk_drew ?_ | refine blk_alloc ?_ _)); refine blk_put (cs := #[.bool t873, .int .i64 0]) ?_ 1 _ rfl; (with_reducible repeat (first | refine blk_drewN ?_ _ | refine blk_drew ?_ | refine blk_alloc ?_ _)); refine blk_put (cs := #[.bool false, .int .i64 0]) ?_ 0 _ rfl; (with_reducible repeat (first | refine blk_drewN ?_ _ | refine blk_drew ?_ | refine blk_alloc ?_ _)); exact BK878.out⟩, ⟨hb4_ HB.out GE865.out GE866.out GE872.out GE878.out⟩⟩
              · replace c31 := Bool.eq_false_iff.mpr c31
                subst c31
                have H1 : (if t870 = true then (laws_FnReadOne.j0 k t862 t869 t870 (t869 != t861) false t861 t863 t864) else (laws_FnReadOne.j0 k t862 t869 t870 false false t861 t863 t864)) = some r := by rw [if_neg (show ¬ (false = true) by decide)] at H; exact H
                clear H
                have H := H1
                clear H1
                by_cases c55 : t870 = true
                · subst c55
                  have H1 : (laws_FnReadOne.j0 k t862 t869 true (t869 != t861) false t861 t863 t864) = some r := by rw [if_pos rfl] at H; exact H
                  clear H
                  have H := H1
                  clear H1
                  have H' := Aside0.mk H
                  clear H
                  have hnb56 := NB872_865.out
                  have hnc56 := NB865_872.out
                  have hnb57 := NB872_866.out
                  have hnc57 := NB866_872.out
                  have hnb58 := NB872_878.out
                  have hnc58 := NB878_872.out
                  have hcz59_0 := bc_ BK872.out 0 (.bool true) rfl
                  have hcz59_1 := bc_ BK872.out 1 (.int .i64 t868) rfl
                  have hfz59_0 := blk_frozen BK872.out 0
                  have hfz59_1 := blk_frozen BK872.out 1
                  have hnb60 := NB865_866.out
                  have hnc60 := NB866_865.out
                  have hnb61 := NB865_878.out
                  have hnc61 := NB878_865.out
                  have hcz62_0 := bc_ BK865.out 0 (.bool false) rfl
                  have hcz62_1 := bc_ BK865.out 1 (.int .i64 t861) rfl
                  have hfz62_0 := blk_frozen BK865.out 0
                  have hfz62_1 := blk_frozen BK865.out 1
                  go_wp2
                  go_meet
                  case rel => exact ⟨_, ((t869 != t861)), (by first | rfl | (simp; done) | (simp [*]; done)), H', ⟨by first | omega | exact Nat.le_refl _⟩, ⟨by (with_reducible repeat (first | refine blk_drewN ?_ _ | refine blk_drew ?_ | refine blk_alloc ?_ _)); refine blk_far ?_ NB865_878.out _; (with_reducible repeat (first | refine blk_drewN ?_ _ | refine blk_drew ?_ | refine blk_alloc ?_ _)); refine blk_far ?_ NB865_878.out _; (with_reducible repeat (first | refine blk_drewN ?_ _ | refine blk_drew ?_ | refine blk_alloc ?_ _)); exact BK865.out⟩, ⟨by (with_reducible repeat (first | refine blk_drewN ?_ _ | refine blk_drew ?_ | refine blk_alloc ?_ _)); refine blk_far ?_ NB866_878.out _; (with_reducible repeat (first | refine blk_drewN ?_ _ | refine blk_drew ?_ | refine blk_alloc ?_ _)); refine blk_far ?_ NB866_878.out _; (with_reducible repeat (first | refine blk_drewN ?_ _ | refine blk_drew ?_ | refine blk_alloc ?_ _)); exact BK866.out⟩, ⟨by (with_reducible repeat (first | refine blk_drewN ?_ _ | refine blk_drew ?_ | refine blk_alloc ?_ _)); refine blk_far ?_ NB872_878.out _; (with_reducible repeat (first | refine blk_drewN ?_ _ | refine blk_drew ?_ | refine blk_alloc ?_ _)); refine blk_far ?_ NB872_878.out _; (with_reducible repeat (first | refine blk_drewN ?_ _ | refine blk_drew ?_ | refine blk_alloc ?_ _)); exact BK872.out⟩, ⟨by (with_reducible repeat (first | refine blk_drewN ?_ _ | refine blk_drew ?_ | refine blk_alloc ?_ _)); refine blk_put (cs := #[.bool t873, .int .i64 0]) ?_ 1 _ rfl; (with_reducible repeat (first | refine blk_drewN ?_ _ | refine blk_drew ?_ | refine blk_alloc ?_ _)); refine blk_put (cs := #[.bool false, .int .i64 0]) ?_ 0 _ rfl; (with_reducible repeat (first | refine blk_drewN ?_ _ | refine blk_drew ?_ | refine blk_alloc ?_ _)); exact BK878.out⟩, ⟨hb4_ HB.out GE865.out GE866.out GE872.out GE878.out⟩⟩
                · replace c55 := Bool.eq_false_iff.mpr c55
                  subst c55
                  have H1 : (laws_FnReadOne.j0 k t862 t869 false false false t861 t863 t864) = some r := by rw [if_neg (show ¬ (false = true) by decide)] at H; exact H
                  clear H
                  have H := H1
                  clear H1
                  have H' := Aside0.mk H
                  clear H
                  have hnb63 := NB872_865.out
                  have hnc63 := NB865_872.out
                  have hnb64 := NB872_866.out
                  have hnc64 := NB866_872.out
                  have hnb65 := NB872_878.out
                  have hnc65 := NB878_872.out
                  have hcz66_0 := bc_ BK872.out 0 (.bool true) rfl
                  have hcz66_1 := bc_ BK872.out 1 (.int .i64 t868) rfl
                  have hfz66_0 := blk_frozen BK872.out 0
                  have hfz66_1 := blk_frozen BK872.out 1
                  have hnb67 := NB865_866.out
                  have hnc67 := NB866_865.out
                  have hnb68 := NB865_878.out
                  have hnc68 := NB878_865.out
                  have hcz69_0 := bc_ BK865.out 0 (.bool false) rfl
                  have hcz69_1 := bc_ BK865.out 1 (.int .i64 t861) rfl
                  have hfz69_0 := blk_frozen BK865.out 0
                  have hfz69_1 := blk_frozen BK865.out 1
                  go_wp2
                  go_meet
                  case rel => exact ⟨_, (false), (by first | rfl | (simp; done) | (simp [*]; done)), H', ⟨by first | omega | exact Nat.le_refl _⟩, ⟨by (with_reducible repeat (first | refine blk_drewN ?_ _ | refine blk_drew ?_ | refine blk_alloc ?_ _)); refine blk_far ?_ NB865_878.out _; (with_reducible repeat (first | refine blk_drewN ?_ _ | refine blk_drew ?_ | refine blk_alloc ?_ _)); refine blk_far ?_ NB865_878.out _; (with_reducible repeat (first | refine blk_drewN ?_ _ | refine blk_drew ?_ | refine blk_alloc ?_ _)); exact BK865.out⟩, ⟨by (with_reducible repeat (first | refine blk_drewN ?_ _ | refine blk_drew ?_ | refine blk_alloc ?_ _)); refine blk_far ?_ NB866_878.out _; (with_reducible repeat (first | refine blk_drewN ?_ _ | refine blk_drew ?_ | refine blk_alloc ?_ _)); refine blk_far ?_ NB866_878.out _; (with_reducible repeat (first | refine blk_drewN ?_ _ | refine blk_drew ?_ | refine blk_alloc ?_ _)); exact BK866.out⟩, ⟨by (with_reducible repeat (first | refine blk_drewN ?_ _ | refine blk_drew ?_ | refine blk_alloc ?_ _)); refine blk_far ?_ NB872_878.out _; (with_reducible repeat (first | refine blk_drewN ?_ _ | refine blk_drew ?_ | refine blk_alloc ?_ _)); refine blk_far ?_ NB872_878.out _; (with_reducible repeat (first | refine blk_drewN ?_ _ | refine blk_drew ?_ | refine blk_alloc ?_ _)); exact BK872.out⟩, ⟨by (with_reducible repeat (first | refine blk_drewN ?_ _ | refine blk_drew ?_ | refine blk_alloc ?_ _)); refine blk_put (cs := #[.bool t873, .int .i64 0]) ?_ 1 _ rfl; (with_reducible repeat (first | refine blk_drewN ?_ _ | refine blk_drew ?_ | refine blk_alloc ?_ _)); refine blk_put (cs := #[.bool false, .int .i64 0]) ?_ 0 _ rfl; (with_reducible repeat (first | refine blk_drewN ?_ _ | refine blk_drew ?_ | refine blk_alloc ?_ _)); exact BK878.out⟩, ⟨hb4_ HB.out GE865.out GE866.out GE872.out GE878.out⟩⟩
            · rw [if_neg c30] at H
              have c30b0 : (t868 == t869) = false := beq_eq_false_iff_ne.mpr c30
              have c30b1 : (t868 != t869) = true := bne_iff_ne.mpr c30
              (first | rw [c30b0] | (simp only [i64_w, i32_w]; rw [c30b0]) | skip)
              have H' := Aside0.mk H
              clear H
              have hnb70 := NB872_865.out
              have hnc70 := NB865_872.out
              have hnb71 := NB872_866.out
              have hnc71 := NB866_872.out
              have hnb72 := NB872_878.out
              have hnc72 := NB878_872.out
              have hcz73_0 := bc_ BK872.out 0 (.bool true) rfl
              have hcz73_1 := bc_ BK872.out 1 (.int .i64 t868) rfl
              have hfz73_0 := blk_frozen BK872.out 0
              have hfz73_1 := blk_frozen BK872.out 1
              go_wp2
              go_meet
              case rel => exact ⟨_, (true), (by first | rfl | (simp; done) | (simp [*]; done)), H', ⟨by first | omega | exact Nat.le_refl _⟩, ⟨by (with_reducible repeat (first | refine blk_drewN ?_ _ | refine blk_drew ?_ | refine blk_alloc ?_ _)); refine blk_far ?_ NB865_878.out _; (with_reducible repeat (first | refine blk_drewN ?_ _ | refine blk_drew ?_ | refine blk_alloc ?_ _)); refine blk_far ?_ NB865_878.out _; (with_reducible repeat (first | refine blk_drewN ?_ _ | refine blk_drew ?_ | refine blk_alloc ?_ _)); exact BK865.out⟩, ⟨by (with_reducible repeat (first | refine blk_drewN ?_ _ | refine blk_drew ?_ | refine blk_alloc ?_ _)); refine blk_far ?_ NB866_878.out _; (with_reducible repeat (first | refine blk_drewN ?_ _ | refine blk_drew ?_ | refine blk_alloc ?_ _)); refine blk_far ?_ NB866_878.out _; (with_reducible repeat (first | refine blk_drewN ?_ _ | refine blk_drew ?_ | refine blk_alloc ?_ _)); exact BK866.out⟩, ⟨by (with_reducible repeat (first | refine blk_drewN ?_ _ | refine blk_drew ?_ | refine blk_alloc ?_ _)); refine blk_far ?_ NB872_878.out _; (with_reducible repeat (first | refine blk_drewN ?_ _ | refine blk_drew ?_ | refine blk_alloc ?_ _)); refine blk_far ?_ NB872_878.out _; (with_reducible repeat (first | refine blk_drewN ?_ _ | refine blk_drew ?_ | refine blk_alloc ?_ _)); exact BK872.out⟩, ⟨by (with_reducible repeat (first | refine blk_drewN ?_ _ | refine blk_drew ?_ | refine blk_alloc ?_ _)); refine blk_put (cs := #[.bool t873, .int .i64 0]) ?_ 1 _ rfl; (with_reducible repeat (first | refine blk_drewN ?_ _ | refine blk_drew ?_ | refine blk_alloc ?_ _)); refine blk_put (cs := #[.bool false, .int .i64 0]) ?_ 0 _ rfl; (with_reducible repeat (first | refine blk_drewN ?_ _ | refine blk_drew ?_ | refine blk_alloc ?_ _)); exact BK878.out⟩, ⟨hb4_ HB.out GE865.out GE866.out GE872.out GE878.out⟩⟩
          · replace c29 := Bool.eq_false_iff.mpr c29
            subst c29
            have H1 : (laws_FnReadOne.j0 k t862 t869 t870 true t860 t861 t863 t864) = some r := by rw [if_neg (show ¬ (false = true) by decide)] at H; exact H
            clear H
            have H := H1
            clear H1
            have H' := Aside0.mk H
            clear H
            have hnb74 := NB872_865.out
            have hnc74 := NB865_872.out
            have hnb75 := NB872_866.out
            have hnc75 := NB866_872.out
            have hnb76 := NB872_878.out
            have hnc76 := NB878_872.out
            have hcz77_0 := bc_ BK872.out 0 (.bool false) rfl
            have hcz77_1 := bc_ BK872.out 1 (.int .i64 t868) rfl
            have hfz77_0 := blk_frozen BK872.out 0
            have hfz77_1 := blk_frozen BK872.out 1
            go_wp2
            go_meet
            case rel => exact ⟨_, (true), (by first | rfl | (simp; done) | (simp [*]; done)), H', ⟨by first | omega | exact Nat.le_refl _⟩, ⟨by (with_reducible repeat (first | refine blk_drewN ?_ _ | refine blk_drew ?_ | refine blk_alloc ?_ _)); refine blk_far ?_ NB865_878.out _; (with_reducible repeat (first | refine blk_drewN ?_ _ | refine blk_drew ?_ | refine blk_alloc ?_ _)); refine blk_far ?_ NB865_878.out _; (with_reducible repeat (first | refine blk_drewN ?_ _ | refine blk_drew ?_ | refine blk_alloc ?_ _)); exact BK865.out⟩, ⟨by (with_reducible repeat (first | refine blk_drewN ?_ _ | refine blk_drew ?_ | refine blk_alloc ?_ _)); refine blk_far ?_ NB866_878.out _; (with_reducible repeat (first | refine blk_drewN ?_ _ | refine blk_drew ?_ | refine blk_alloc ?_ _)); refine blk_far ?_ NB866_878.out _; (with_reducible repeat (first | refine blk_drewN ?_ _ | refine blk_drew ?_ | refine blk_alloc ?_ _)); exact BK866.out⟩, ⟨by (with_reducible repeat (first | refine blk_drewN ?_ _ | refine blk_drew ?_ | refine blk_alloc ?_ _)); refine blk_far ?_ NB872_878.out _; (with_reducible repeat (first | refine blk_drewN ?_ _ | refine blk_drew ?_ | refine blk_alloc ?_ _)); refine blk_far ?_ NB872_878.out _; (with_reducible repeat (first | refine blk_drewN ?_ _ | refine blk_drew ?_ | refine blk_alloc ?_ _)); exact BK872.out⟩, ⟨by (with_reducible repeat (first | refine blk_drewN ?_ _ | refine blk_drew ?_ | refine blk_alloc ?_ _)); refine blk_put (cs := #[.bool t873, .int .i64 0]) ?_ 1 _ rfl; (with_reducible repeat (first | refine blk_drewN ?_ _ | refine blk_drew ?_ | refine blk_alloc ?_ _)); refine blk_put (cs := #[.bool false, .int .i64 0]) ?_ 0 _ rfl; (with_reducible repeat (first | refine blk_drewN ?_ _ | refine blk_drew ?_ | refine blk_alloc ?_ _)); exact BK878.out⟩, ⟨hb4_ HB.out GE865.out GE866.out GE872.out GE878.out⟩⟩
        case rest =>
          clear HC9
          try clear c1
          try clear c2
          try clear p2
          try clear c3
          try clear c4
          try clear c5
          try clear c6
          try clear c7
          try clear c7b0
          try clear c7b1
          try clear c8
          try clear c8b0
          try clear c8b1
          try clear c9
          try clear c13
          try clear c18
          try clear c19
          try clear c25
          try clear c26
          try clear c27
          try clear c29
          try clear c30
          try clear c30b0
          try clear c30b1
          try clear c31
          try clear c32
          try clear c32b0
          try clear c33
          try clear c34
          try clear c35
          try clear c37
          try clear c38
          try clear c40
          try clear c41
          try clear c42
          try clear c43
          try clear c45
          try clear c46
          try clear c48
          try clear c49
          try clear c50
          try clear c52
          try clear c53
          try clear c54
          try clear c55
          try clear c56
          try clear c57
          try clear c58
          try clear c60
          try clear c61
          try clear c63
          try clear c64
          try clear c65
          try clear c67
          try clear c68
          try clear c70
          try clear c71
          try clear c72
          try clear c74
          try clear c75
          try clear c76
          try clear hcz14_0
          try clear hcz14_1
          try clear hcz15_0
          try clear hcz15_1
          try clear hcz20_0
          try clear hcz20_1
          try clear hcz21_0
          try clear hcz21_1
          try clear hcz22_0
          try clear hcz22_1
          try clear hcz28_0
          try clear hcz28_1
          try clear hcz36_0
          try clear hcz36_1
          try clear hcz39_0
          try clear hcz39_1
          try clear hcz44_0
          try clear hcz44_1
          try clear hcz47_0
          try clear hcz47_1
          try clear hcz51_0
          try clear hcz51_1
          try clear hcz54_0
          try clear hcz54_1
          try clear hcz59_0
          try clear hcz59_1
          try clear hcz62_0
          try clear hcz62_1
          try clear hcz66_0
          try clear hcz66_1
          try clear hcz69_0
          try clear hcz69_1
          try clear hcz73_0
          try clear hcz73_1
          try clear hcz77_0
          try clear hcz77_1
          try clear hfz14_0
          try clear hfz14_1
          try clear hfz15_0
          try clear hfz15_1
          try clear hfz20_0
          try clear hfz20_1
          try clear hfz21_0
          try clear hfz21_1
          try clear hfz22_0
          try clear hfz22_1
          try clear hfz28_0
          try clear hfz28_1
          try clear hfz36_0
          try clear hfz36_1
          try clear hfz39_0
          try clear hfz39_1
          try clear hfz44_0
          try clear hfz44_1
          try clear hfz47_0
          try clear hfz47_1
          try clear hfz51_0
          try clear hfz51_1
          try clear hfz54_0
          try clear hfz54_1
          try clear hfz59_0
          try clear hfz59_1
          try clear hfz62_0
          try clear hfz62_1
          try clear hfz66_0
          try clear hfz66_1
          try clear hfz69_0
          try clear hfz69_1
          try clear hfz73_0
          try clear hfz73_1
          try clear hfz77_0
          try clear hfz77_1
          obtain ⟨kq, x81_8, rfl, HA, HJ8, BK865, BK866, BK872, BK878, HB⟩ := hcut
          cases kq with
          | zero => exact absurd HA.out (by simp [laws_FnReadOne.j0])
          | succ kj8 =>
            have H := HA.out
            clear HA
            simp only [laws_FnReadOne.j0] at H
            by_cases c78 : x81_8 = true
            · subst c78
              have H1 : (some false) = some r := by rw [if_pos rfl] at H; exact H
              clear H
              have H := H1
              clear H1
              obtain rfl := Option.some.inj H
              exact absurd hr_ (by decide)
            · replace c78 := Bool.eq_false_iff.mpr c78
              subst c78
              have H1 : (if t862 = true then ((impl_AppLag.f t860 t861 t863 t864).bind fun t879 => (if (t870 != (decide (t879 > 0))) = true then (laws_FnReadOne.j1 kj8 t869 true) else (if t870 = true then (laws_FnReadOne.j1 kj8 t869 false) else ((impl_Holds.f t863 t864 t869).bind fun t880 => (laws_FnReadOne.j1 kj8 t869 (!t880)))))) else (laws_FnReadOne.j1 kj8 t869 false)) = some r := by rw [if_neg (show ¬ (false = true) by decide)] at H; exact H
              clear H
              have H := H1
              clear H1
              have HC79 := Aside0.mk H
              clear H
              go_upto_region 12 with (fail)
              go_cut [100] (fun v100 wc => ∃ (kq : Nat) (x100_78 : Bool), v100 = .bool x100_78 ∧ Aside0 (laws_FnReadOne.j1 kq t869 x100_78 = some r) ∧ Aside0 (kq ≤ kj8) ∧ Aside0 (wc.heap[gb865]? = some (.cells #[.bool t860, .int .i64 t861] 66 (0, 0))) ∧ Aside0 (wc.heap[gb866]? = some (.cells #[.int .i64 t863, .int .i64 t864] 81 (0, 0))) ∧ Aside0 (wc.heap[gb872]? = some (.cells #[.bool t867, .int .i64 t868] 66 (0, 0))) ∧ Aside0 (wc.heap[gb878]? = some (.cells #[.bool t873, .int .i64 t874] 66 (0, 0))) ∧ Aside0 (Below w.heap.size w wc))
              case first =>
                have H := HC79.out
                clear HC79
                by_cases c80 : t862 = true
                · subst c80
                  have H1 : ((impl_AppLag.f t860 t861 t863 t864).bind fun t879 => (if (t870 != (decide (t879 > 0))) = true then (laws_FnReadOne.j1 kj8 t869 true) else (if t870 = true then (laws_FnReadOne.j1 kj8 t869 false) else ((impl_Holds.f t863 t864 t869).bind fun t880 => (laws_FnReadOne.j1 kj8 t869 (!t880)))))) = some r := by rw [if_pos rfl] at H; exact H
                  clear H
                  have H := H1
                  clear H1
                  replace H := Option.bind_eq_some_iff.mp H
                  obtain ⟨t879, A810, H⟩ := H
                  replace H : (if (t870 != (decide (t879 > 0))) = true then (laws_FnReadOne.j1 kj8 t869 true) else (if t870 = true then (laws_FnReadOne.j1 kj8 t869 false) else ((impl_Holds.f t863 t864 t869).bind fun t880 => (laws_FnReadOne.j1 kj8 t869 (!t880))))) = some r := H
                  have A81 := Aside0.mk A810
                  clear A810
                  by_cases c82 : (t870 != (decide (t879 > 0))) = true
                  · rw [if_pos c82] at H
                    have c82b0 : (t870 != (decide (t879 > 0))) = true := c82
                    (try (have c82b1 : decide (t870 = (decide (t879 > 0))) = false := by simpa using c82))
                    (try (have c82b2 : (t870 == (decide (t879 > 0))) = false := by simpa using c82))
                    (try (have c82b3 : ¬ (t870 = (decide (t879 > 0))) := by simpa using c82))
                    clear c82
                    (first | rw [c82b0] | (simp only [i64_w, i32_w]; rw [c82b0]) | skip)
                    have H' := Aside0.mk H
                    clear H
                    have hnb83 := NB865_866.out
                    have hnc83 := NB866_865.out
                    have hnb84 := NB865_872.out
                    have hnc84 := NB872_865.out
                    have hnb85 := NB865_878.out
                    have hnc85 := NB878_865.out
                    have hcz86_0 := bc_ BK865.out 0 (.bool t860) rfl
                    have hcz86_1 := bc_ BK865.out 1 (.int .i64 t861) rfl
                    have hfz86_0 := blk_frozen BK865.out 0
                    have hfz86_1 := blk_frozen BK865.out 1
                    have hnb87 := NB866_872.out
                    have hnc87 := NB872_866.out
                    have hnb88 := NB866_878.out
                    have hnc88 := NB878_866.out
                    have hcz89_0 := bc_ BK866.out 0 (.int .i64 t863) rfl
                    have hcz89_1 := bc_ BK866.out 1 (.int .i64 t864) rfl
                    have hfz89_0 := blk_frozen BK866.out 0
                    have hfz89_1 := blk_frozen BK866.out 1
                    go_wp2_with (first | (go_at_call 55; (with_reducible refine (impl_AppLag.calls t860 t861 t863 t864 t879 _ A81.out).mono ?_); rintro e w90 ⟨rfl, hb⟩; have n0_ := Aside0.mk (bb_ BK865.out hb); have n1_ := Aside0.mk (bb_ BK866.out hb); have n2_ := Aside0.mk (bb_ BK872.out hb); have n3_ := Aside0.mk (bb_ BK878.out hb); have n4_ := Aside0.mk (below_step (hb4_ HB.out GE865.out GE866.out GE872.out GE878.out) hb); clear BK865; clear BK866; clear BK872; clear BK878; clear HB; have BK865 := n0_; have BK866 := n1_; have BK872 := n2_; have BK878 := n3_; have HB := n4_; clear n0_ n1_ n2_ n3_ n4_; (try clear hb); (try clear hb2); (try clear hk); (try clear hi)))
                    go_meet
                    case rel => exact ⟨_, (true), (by first | rfl | (simp; done) | (simp [*]; done)), H', ⟨by have := HJ8.out; first | omega | exact Nat.le_refl _⟩, ⟨bk_ BK865.out⟩, ⟨bk_ BK866.out⟩, ⟨bk_ BK872.out⟩, ⟨bk_ BK878.out⟩, ⟨hb4_ HB.out GE865.out GE866.out GE872.out GE878.out⟩⟩
                  · rw [if_neg c82] at H
                    have c82b0 : (t870 != (decide (t879 > 0))) = false := by simpa using c82
                    (try (have c82b1 : decide (t870 = (decide (t879 > 0))) = true := by simpa using c82))
                    (try (have c82b2 : (t870 == (decide (t879 > 0))) = true := by simpa using c82))
                    clear c82
                    (first | rw [c82b0] | (simp only [i64_w, i32_w]; rw [c82b0]) | skip)
                    by_cases c91 : t870 = true
                    · subst c91
                      have H1 : (laws_FnReadOne.j1 kj8 t869 false) = some r := by rw [if_pos rfl] at H; exact H
                      clear H
                      have H := H1
                      clear H1
                      have H' := Aside0.mk H
                      clear H
                      have hnb92 := NB865_866.out
                      have hnc92 := NB866_865.out
                      have hnb93 := NB865_872.out
                      have hnc93 := NB872_865.out
                      have hnb94 := NB865_878.out
                      have hnc94 := NB878_865.out
                      have hcz95_0 := bc_ BK865.out 0 (.bool t860) rfl
                      have hcz95_1 := bc_ BK865.out 1 (.int .i64 t861) rfl
                      have hfz95_0 := blk_frozen BK865.out 0
                      have hfz95_1 := blk_frozen BK865.out 1
                      have hnb96 := NB866_872.out
                      have hnc96 := NB872_866.out
                      have hnb97 := NB866_878.out
                      have hnc97 := NB878_866.out
                      have hcz98_0 := bc_ BK866.out 0 (.int .i64 t863) rfl
                      have hcz98_1 := bc_ BK866.out 1 (.int .i64 t864) rfl
                      have hfz98_0 := blk_frozen BK866.out 0
                      have hfz98_1 := blk_frozen BK866.out 1
                      go_wp2_with (first | (go_at_call 55; (with_reducible refine (impl_AppLag.calls t860 t861 t863 t864 t879 _ A81.out).mono ?_); rintro e w99 ⟨rfl, hb⟩; have n0_ := Aside0.mk (bb_ BK865.out hb); have n1_ := Aside0.mk (bb_ BK866.out hb); have n2_ := Aside0.mk (bb_ BK872.out hb); have n3_ := Aside0.mk (bb_ BK878.out hb); have n4_ := Aside0.mk (below_step (hb4_ HB.out GE865.out GE866.out GE872.out GE878.out) hb); clear BK865; clear BK866; clear BK872; clear BK878; clear HB; have BK865 := n0_; have BK866 := n1_; have BK872 := n2_; have BK878 := n3_; have HB := n4_; clear n0_ n1_ n2_ n3_ n4_; (try clear hb); (try clear hb2); (try clear hk); (try clear hi)))
                      go_meet
                      case rel => exact ⟨_, (false), (by first | rfl | (simp; done) | (simp [*]; done)), H', ⟨by have := HJ8.out; first | omega | exact Nat.le_refl _⟩, ⟨bk_ BK865.out⟩, ⟨bk_ BK866.out⟩, ⟨bk_ BK872.out⟩, ⟨bk_ BK878.out⟩, ⟨hb4_ HB.out GE865.out GE866.out GE872.out GE878.out⟩⟩
                    · replace c91 := Bool.eq_false_iff.mpr c91
                      subst c91
                      have H1 : ((impl_Holds.f t863 t864 t869).bind fun t880 => (laws_FnReadOne.j1 kj8 t869 (!t880))) = some r := by rw [if_neg (show ¬ (false = true) by decide)] at H; exact H
                      clear H
                      have H := H1
                      clear H1
                      replace H := Option.bind_eq_some_iff.mp H
                      obtain ⟨t880, A1000, H⟩ := H
                      replace H : (laws_FnReadOne.j1 kj8 t869 (!t880)) = some r := H
                      have A100 := Aside0.mk A1000
                      clear A1000
                      have H' := Aside0.mk H
                      clear H
                      have hnb101 := NB865_866.out
                      have hnc101 := NB866_865.out
                      have hnb102 := NB865_872.out
                      have hnc102 := NB872_865.out
                      have hnb103 := NB865_878.out
                      have hnc103 := NB878_865.out
                      have hcz104_0 := bc_ BK865.out 0 (.bool t860) rfl
                      have hcz104_1 := bc_ BK865.out 1 (.int .i64 t861) rfl
                      have hfz104_0 := blk_frozen BK865.out 0
                      have hfz104_1 := blk_frozen BK865.out 1
                      have hnb105 := NB866_872.out
                      have hnc105 := NB872_866.out
                      have hnb106 := NB866_878.out
                      have hnc106 := NB878_866.out
                      have hcz107_0 := bc_ BK866.out 0 (.int .i64 t863) rfl
                      have hcz107_1 := bc_ BK866.out 1 (.int .i64 t864) rfl
                      have hfz107_0 := blk_frozen BK866.out 0
                      have hfz107_1 := blk_frozen BK866.out 1
                      go_wp2_with (first | (go_at_call 55; (with_reducible refine (impl_AppLag.calls t860 t861 t863 t864 t879 _ A81.out).mono ?_); rintro e w108 ⟨rfl, hb⟩; have n0_ := Aside0.mk (bb_ BK865.out hb); have n1_ := Aside0.mk (bb_ BK866.out hb); have n2_ := Aside0.mk (bb_ BK872.out hb); have n3_ := Aside0.mk (bb_ BK878.out hb); have n4_ := Aside0.mk (below_step (hb4_ HB.out GE865.out GE866.out GE872.out GE878.out) hb); clear BK865; clear BK866; clear BK872; clear BK878; clear HB; have BK865 := n0_; have BK866 := n1_; have BK872 := n2_; have BK878 := n3_; have HB := n4_; clear n0_ n1_ n2_ n3_ n4_; (try clear hb); (try clear hb2); (try clear hk); (try clear hi); have hcz109_0 := bc_ BK866.out 0 (.int .i64 t863) rfl; have hcz109_1 := bc_ BK866.out 1 (.int .i64 t864) rfl; have hfz109_0 := blk_frozen BK866.out 0; have hfz109_1 := blk_frozen BK866.out 1) | (go_at_call 56; (with_reducible refine (impl_Holds.calls t863 t864 t869 t880 _ A100.out).mono ?_); rintro e w110 ⟨rfl, hb⟩; have n0_ := Aside0.mk (bb_ BK865.out hb); have n1_ := Aside0.mk (bb_ BK866.out hb); have n2_ := Aside0.mk (bb_ BK872.out hb); have n3_ := Aside0.mk (bb_ BK878.out hb); have n4_ := Aside0.mk (below_step (hb4_ HB.out GE865.out GE866.out GE872.out GE878.out) hb); clear BK865; clear BK866; clear BK872; clear BK878; clear HB; have BK865 := n0_; have BK866 := n1_; have BK872 := n2_; have BK878 := n3_; have HB := n4_; clear n0_ n1_ n2_ n3_ n4_; (try clear hb); (try clear hb2); (try clear hk); (try clear hi)))
                      go_meet
                      case rel => exact ⟨_, (!t880), (by first | rfl | (simp; done) | (simp [*]; done)), H', ⟨by have := HJ8.out; first | omega | exact Nat.le_refl _⟩, ⟨bk_ BK865.out⟩, ⟨bk_ BK866.out⟩, ⟨bk_ BK872.out⟩, ⟨bk_ BK878.out⟩, ⟨hb4_ HB.out GE865.out GE866.out GE872.out GE878.out⟩⟩
                · replace c80 := Bool.eq_false_iff.mpr c80
                  subst c80
                  have H1 : (laws_FnReadOne.j1 kj8 t869 false) = some r := by rw [if_neg (show ¬ (false = true) by decide)] at H; exact H
                  clear H
                  have H := H1
                  clear H1
                  have H' := Aside0.mk H
                  clear H
                  go_wp2
                  go_meet
                  case rel => exact ⟨_, (false), (by first | rfl | (simp; done) | (simp [*]; done)), H', ⟨by have := HJ8.out; first | omega | exact Nat.le_refl _⟩, ⟨bk_ BK865.out⟩, ⟨bk_ BK866.out⟩, ⟨bk_ BK872.out⟩, ⟨bk_ BK878.out⟩, ⟨hb4_ HB.out GE865.out GE866.out GE872.out GE878.out⟩⟩
              case rest =>
                clear HC79
                try clear c1
                try clear c2
                try clear p2
                try clear c3
                try clear c4
                try clear c5
                try clear c6
                try clear c7
                try clear c7b0
                try clear c7b1
                try clear c8
                try clear c8b0
                try clear c8b1
                try clear c9
                try clear c10
                try clear c13
                try clear c18
                try clear c19
                try clear c25
                try clear c26
                try clear c27
                try clear c29
                try clear c30
                try clear c30b0
                try clear c30b1
                try clear c31
                try clear c32
                try clear c32b0
                try clear c33
                try clear c34
                try clear c35
                try clear c37
                try clear c38
                try clear c40
                try clear c41
                try clear c42
                try clear c43
                try clear c45
                try clear c46
                try clear c48
                try clear c49
                try clear c50
                try clear c52
                try clear c53
                try clear c54
                try clear c55
                try clear c56
                try clear c57
                try clear c58
                try clear c60
                try clear c61
                try clear c63
                try clear c64
                try clear c65
                try clear c67
                try clear c68
                try clear c70
                try clear c71
                try clear c72
                try clear c74
                try clear c75
                try clear c76
                try clear c78
                try clear c80
                try clear c82
                try clear c82b0
                try clear c82b1
                try clear c82b2
                try clear c83
                try clear c84
                try clear c85
                try clear c87
                try clear c88
                try clear c91
                try clear c92
                try clear c93
                try clear c94
                try clear c96
                try clear c97
                try clear c101
                try clear c102
                try clear c103
                try clear c105
                try clear c106
                try clear hcz104_0
                try clear hcz104_1
                try clear hcz107_0
                try clear hcz107_1
                try clear hcz109_0
                try clear hcz109_1
                try clear hcz14_0
                try clear hcz14_1
                try clear hcz15_0
                try clear hcz15_1
                try clear hcz20_0
                try clear hcz20_1
                try clear hcz21_0
                try clear hcz21_1
                try clear hcz22_0
                try clear hcz22_1
                try clear hcz28_0
                try clear hcz28_1
                try clear hcz36_0
                try clear hcz36_1
                try clear hcz39_0
                try clear hcz39_1
                try clear hcz44_0
                try clear hcz44_1
                try clear hcz47_0
                try clear hcz47_1
                try clear hcz51_0
                try clear hcz51_1
                try clear hcz54_0
                try clear hcz54_1
                try clear hcz59_0
                try clear hcz59_1
                try clear hcz62_0
                try clear hcz62_1
                try clear hcz66_0
                try clear hcz66_1
                try clear hcz69_0
                try clear hcz69_1
                try clear hcz73_0
                try clear hcz73_1
                try clear hcz77_0
                try clear hcz77_1
                try clear hcz86_0
                try clear hcz86_1
                try clear hcz89_0
                try clear hcz89_1
                try clear hcz95_0
                try clear hcz95_1
                try clear hcz98_0
                try clear hcz98_1
                try clear hfz104_0
                try clear hfz104_1
                try clear hfz107_0
                try clear hfz107_1
                try clear hfz109_0
                try clear hfz109_1
                try clear hfz14_0
                try clear hfz14_1
                try clear hfz15_0
                try clear hfz15_1
                try clear hfz20_0
                try clear hfz20_1
                try clear hfz21_0
                try clear hfz21_1
                try clear hfz22_0
                try clear hfz22_1
                try clear hfz28_0
                try clear hfz28_1
                try clear hfz36_0
                try clear hfz36_1
                try clear hfz39_0
                try clear hfz39_1
                try clear hfz44_0
                try clear hfz44_1
                try clear hfz47_0
                try clear hfz47_1
                try clear hfz51_0
                try clear hfz51_1
                try clear hfz54_0
                try clear hfz54_1
                try clear hfz59_0
                try clear hfz59_1
                try clear hfz62_0
                try clear hfz62_1
                try clear hfz66_0
                try clear hfz66_1
                try clear hfz69_0
                try clear hfz69_1
                try clear hfz73_0
                try clear hfz73_1
                try clear hfz77_0
                try clear hfz77_1
                try clear hfz86_0
                try clear hfz86_1
                try clear hfz89_0
                try clear hfz89_1
                try clear hfz95_0
                try clear hfz95_1
                try clear hfz98_0
                try clear hfz98_1
                try clear p2
                obtain ⟨kq, x100_78, rfl, HA, HJ78, BK865, BK866, BK872, BK878, HB⟩ := hcut
                cases kq with
                | zero => exact absurd HA.out (by simp [laws_FnReadOne.j1])
                | succ kj78 =>
                  have H := HA.out
                  clear HA
                  simp only [laws_FnReadOne.j1] at H
                  by_cases c111 : x100_78 = true
                  · subst c111
                    have H1 : (some false) = some r := by rw [if_pos rfl] at H; exact H
                    clear H
                    have H := H1
                    clear H1
                    obtain rfl := Option.some.inj H
                    exact absurd hr_ (by decide)
                  · replace c111 := Bool.eq_false_iff.mpr c111
                    subst c111
                    have H1 : ((some (([(⟨true, (⟨t869, t869⟩ : S81)⟩ : S83), (⟨true, (⟨wrap64 (t869 - 1), t869⟩ : S81)⟩ : S83)] : List (S83)) : List (S83))).bind fun y881 => (if (wrap64 (t869 - 1)) < (-1000000000000) then (some true) else ((impl_ReadsOk.f kj78 y881 (([(⟨t869, false, 0⟩ : S88), (⟨t869, false, 0⟩ : S88)] : List (S88)))).bind fun t890 => (if t890 = true then ((impl_ReadsOk.f kj78 y881 (([(⟨t869, false, 0⟩ : S88), (⟨wrap64 (t869 - 1), false, 0⟩ : S88)] : List (S88)))).bind fun t891 => (some (!t891))) else (some false))))) = some r := by rw [if_neg (show ¬ (false = true) by decide)] at H; exact H
                    clear H
                    have H := H1
                    clear H1
                    obtain ⟨y881, hy881⟩ : ∃ y_ : List (S83), y_ = (([(⟨true, (⟨t869, t869⟩ : S81)⟩ : S83), (⟨true, (⟨wrap64 (t869 - 1), t869⟩ : S81)⟩ : S83)] : List (S83))) := ⟨_, rfl⟩
                    replace H : (if (wrap64 (t869 - 1)) < (-1000000000000) then (some true) else ((impl_ReadsOk.f kj78 y881 (([(⟨t869, false, 0⟩ : S88), (⟨t869, false, 0⟩ : S88)] : List (S88)))).bind fun t890 => (if t890 = true then ((impl_ReadsOk.f kj78 y881 (([(⟨t869, false, 0⟩ : S88), (⟨wrap64 (t869 - 1), false, 0⟩ : S88)] : List (S88)))).bind fun t891 => (some (!t891))) else (some false)))) = some r := by first | (rw [hy881]; with_reducible exact H) | (have H2_ := (Option.bind_some _ _).symm.trans H; rw [hy881]; with_reducible exact H2_) | (have H2_ := (Option.bind_some _ _).symm.trans H; with_reducible exact H2_) | with_reducible exact H | (rw [hy881]; exact H) | exact H
                    have Ny881 := Aside0.mk hy881
                    clear hy881
                    by_cases c112 : (wrap64 (t869 - 1)) < (-1000000000000)
                    · rw [if_pos c112] at H
                      have c112b0 : decide ((wrap64 (t869 - 1)) < (-1000000000000)) = true := decide_eq_true c112
                      clear c112
                      obtain rfl := Option.some.inj H
                      go_wp2_with (first | ((with_reducible refine gate_dst (N := 110) rfl ?_); refine Kd.R_lit k83 _ 83 ?hg (N := 110) ?hd (xs := ([(⟨true, (⟨t869, t869⟩ : S81)⟩ : S83), (⟨true, (⟨wrap64 (t869 - 1), t869⟩ : S81)⟩ : S83)] : List (S83))) (inner := [.bool true, .int .i64 t869, .int .i64 t869, .bool true, .int .i64 (wrap64 (t869 - 1)), .int .i64 t869]) (ok := fun _ => True) (okp := fun _ => True) ?hr ?hp (fun _ hk => hk) trivial (Below.refl _ _) (Nat.le_refl _) (by simp) ?_; (case hd => rfl); (case hg => rfl); (case hr => first | (go_simp; done) | (go_simp; rfl)); (case hp => exact (Reps.c3 (show Kd.M k83 _ _ _ (⟨true, (⟨t869, t869⟩ : S81)⟩ : S83) [.bool true, .int .i64 t869, .int .i64 t869] from (k83_mkM _ _ _ (⟨true, (⟨t869, t869⟩ : S81)⟩ : S83) )) (Reps.c3 (show Kd.M k83 _ _ _ (⟨true, (⟨wrap64 (t869 - 1), t869⟩ : S81)⟩ : S83) [.bool true, .int .i64 (wrap64 (t869 - 1)), .int .i64 t869] from (k83_mkM _ _ _ (⟨true, (⟨wrap64 (t869 - 1), t869⟩ : S81)⟩ : S83) )) (Reps.none _ _)))); intro v882 w113 ho114 hb hg_ hnew_; clear hg_ hnew_; (first | rw [← Ny881.out] at ho114 | (simp only [Int.reduceToNat] at ho114; rw [← Ny881.out] at ho114)); have n0_ := Aside0.mk (Kd.R_lower ho114 (below_size (hb4_ HB.out GE865.out GE866.out GE872.out GE878.out))); have n1_ := Aside0.mk (bb_ BK865.out hb); have n2_ := Aside0.mk (bb_ BK866.out hb); have n3_ := Aside0.mk (bb_ BK872.out hb); have n4_ := Aside0.mk (bb_ BK878.out hb); have n5_ := Aside0.mk (below_step (hb4_ HB.out GE865.out GE866.out GE872.out GE878.out) hb); clear BK865; clear BK866; clear BK872; clear BK878; clear HB; have HO883 := n0_; have BK865 := n1_; have BK866 := n2_; have BK872 := n3_; have BK878 := n4_; have HB := n5_; clear n0_ n1_ n2_ n3_ n4_ n5_; clear hb ho114))
                      go_ret
                      exact ⟨er_, hb4_ HB.out GE865.out GE866.out GE872.out GE878.out⟩
                    · rw [if_neg c112] at H
                      have c112b0 : decide ((wrap64 (t869 - 1)) < (-1000000000000)) = false := decide_eq_false c112
                      clear c112
                      obtain ⟨y884, hy884⟩ : ∃ y_ : List (S88), y_ = (([(⟨t869, false, 0⟩ : S88), (⟨t869, false, 0⟩ : S88)] : List (S88))) := ⟨_, rfl⟩
                      replace H : ((impl_ReadsOk.f kj78 y881 y884).bind fun t890 => (if t890 = true then ((impl_ReadsOk.f kj78 y881 (([(⟨t869, false, 0⟩ : S88), (⟨wrap64 (t869 - 1), false, 0⟩ : S88)] : List (S88)))).bind fun t891 => (some (!t891))) else (some false))) = some r := by first | (rw [hy884]; with_reducible exact H) | (have H2_ := (Option.bind_some _ _).symm.trans H; rw [hy884]; with_reducible exact H2_) | (have H2_ := (Option.bind_some _ _).symm.trans H; with_reducible exact H2_) | with_reducible exact H | (rw [hy884]; exact H) | exact H
                      have Ny884 := Aside0.mk hy884
                      clear hy884
                      obtain ⟨y887, hy887⟩ : ∃ y_ : List (S88), y_ = (([(⟨t869, false, 0⟩ : S88), (⟨wrap64 (t869 - 1), false, 0⟩ : S88)] : List (S88))) := ⟨_, rfl⟩
                      replace H : ((impl_ReadsOk.f kj78 y881 y884).bind fun t890 => (if t890 = true then ((impl_ReadsOk.f kj78 y881 y887).bind fun t891 => (some (!t891))) else (some false))) = some r := by first | (rw [hy887]; with_reducible exact H) | (have H2_ := (Option.bind_some _ _).symm.trans H; rw [hy887]; with_reducible exact H2_) | (have H2_ := (Option.bind_some _ _).symm.trans H; with_reducible exact H2_) | with_reducible exact H | (rw [hy887]; exact H) | exact H
                      have Ny887 := Aside0.mk hy887
                      clear hy887
                      replace H := Option.bind_eq_some_iff.mp H
                      obtain ⟨t890, A1150, H⟩ := H
                      replace H : (if t890 = true then ((impl_ReadsOk.f kj78 y881 y887).bind fun t891 => (some (!t891))) else (some false)) = some r := H
                      have A115 := Aside0.mk A1150
                      clear A1150
                      by_cases c116 : t890 = true
                      · subst c116
                        have H1 : ((impl_ReadsOk.f kj78 y881 y887).bind fun t891 => (some (!t891))) = some r := by rw [if_pos rfl] at H; exact H
                        clear H
                        have H := H1
                        clear H1
                        replace H := Option.bind_eq_some_iff.mp H
                        obtain ⟨t891, A1170, H⟩ := H
                        replace H : (some (!t891)) = some r := H
                        have A117 := Aside0.mk A1170
                        clear A1170
                        obtain rfl := Option.some.inj H
                        go_wp2_with (first | ((with_reducible refine gate_dst (N := 110) rfl ?_); refine Kd.R_lit k83 _ 83 ?hg (N := 110) ?hd (xs := ([(⟨true, (⟨t869, t869⟩ : S81)⟩ : S83), (⟨true, (⟨wrap64 (t869 - 1), t869⟩ : S81)⟩ : S83)] : List (S83))) (inner := [.bool true, .int .i64 t869, .int .i64 t869, .bool true, .int .i64 (wrap64 (t869 - 1)), .int .i64 t869]) (ok := fun _ => True) (okp := fun _ => True) ?hr ?hp (fun _ hk => hk) trivial (Below.refl _ _) (Nat.le_refl _) (by simp) ?_; (case hd => rfl); (case hg => rfl); (case hr => first | (go_simp; done) | (go_simp; rfl)); (case hp => exact (Reps.c3 (show Kd.M k83 _ _ _ (⟨true, (⟨t869, t869⟩ : S81)⟩ : S83) [.bool true, .int .i64 t869, .int .i64 t869] from (k83_mkM _ _ _ (⟨true, (⟨t869, t869⟩ : S81)⟩ : S83) )) (Reps.c3 (show Kd.M k83 _ _ _ (⟨true, (⟨wrap64 (t869 - 1), t869⟩ : S81)⟩ : S83) [.bool true, .int .i64 (wrap64 (t869 - 1)), .int .i64 t869] from (k83_mkM _ _ _ (⟨true, (⟨wrap64 (t869 - 1), t869⟩ : S81)⟩ : S83) )) (Reps.none _ _)))); intro v882 w118 ho119 hb hg_ hnew_; clear hg_ hnew_; (first | rw [← Ny881.out] at ho119 | (simp only [Int.reduceToNat] at ho119; rw [← Ny881.out] at ho119)); have n0_ := Aside0.mk (Kd.R_lower ho119 (below_size (hb4_ HB.out GE865.out GE866.out GE872.out GE878.out))); have n1_ := Aside0.mk (bb_ BK865.out hb); have n2_ := Aside0.mk (bb_ BK866.out hb); have n3_ := Aside0.mk (bb_ BK872.out hb); have n4_ := Aside0.mk (bb_ BK878.out hb); have n5_ := Aside0.mk (below_step (hb4_ HB.out GE865.out GE866.out GE872.out GE878.out) hb); clear BK865; clear BK866; clear BK872; clear BK878; clear HB; have HO883 := n0_; have BK865 := n1_; have BK866 := n2_; have BK872 := n3_; have BK878 := n4_; have HB := n5_; clear n0_ n1_ n2_ n3_ n4_ n5_; clear hb ho119) | ((with_reducible refine gate_dst (N := 118) rfl ?_); refine Kd.R_lit k88 _ 88 ?hg (N := 118) ?hd (xs := ([(⟨t869, false, 0⟩ : S88), (⟨t869, false, 0⟩ : S88)] : List (S88))) (inner := [.int .i64 t869, .bool false, .int .i64 0, .int .i64 t869, .bool false, .int .i64 0]) (ok := fun _ => True) (okp := fun _ => True) ?hr ?hp (fun _ hk => hk) trivial (Below.refl _ _) (Nat.le_refl _) (by simp) ?_; (case hd => rfl); (case hg => rfl); (case hr => first | (go_simp; done) | (go_simp; rfl)); (case hp => exact (Reps.c3 (show Kd.M k88 _ _ _ (⟨t869, false, 0⟩ : S88) [.int .i64 t869, .bool false, .int .i64 0] from (k88_mkM _ _ _ (⟨t869, false, 0⟩ : S88) )) (Reps.c3 (show Kd.M k88 _ _ _ (⟨t869, false, 0⟩ : S88) [.int .i64 t869, .bool false, .int .i64 0] from (k88_mkM _ _ _ (⟨t869, false, 0⟩ : S88) )) (Reps.none _ _)))); intro v885 w120 ho121 hb hg_ hnew_; clear hg_ hnew_; (first | rw [← Ny884.out] at ho121 | (simp only [Int.reduceToNat] at ho121; rw [← Ny884.out] at ho121)); have n0_ := Aside0.mk (Kd.R_below (by (with_reducible repeat (first | apply Kd.R_alloc | apply Kd.R_drewN | apply Kd.R_drew)); exact HO883.out) hb); have n1_ := Aside0.mk (Kd.R_lower ho121 (below_size (hb4_ HB.out GE865.out GE866.out GE872.out GE878.out))); have n2_ := Aside0.mk (bb_ BK865.out hb); have n3_ := Aside0.mk (bb_ BK866.out hb); have n4_ := Aside0.mk (bb_ BK872.out hb); have n5_ := Aside0.mk (bb_ BK878.out hb); have n6_ := Aside0.mk (below_step (hb4_ HB.out GE865.out GE866.out GE872.out GE878.out) hb); clear HO883; clear BK865; clear BK866; clear BK872; clear BK878; clear HB; have HO883 := n0_; have HO886 := n1_; have BK865 := n2_; have BK866 := n3_; have BK872 := n4_; have BK878 := n5_; have HB := n6_; clear n0_ n1_ n2_ n3_ n4_ n5_ n6_; clear hb ho121) | ((with_reducible refine gate_dst (N := 124) rfl ?_); refine Kd.R_lit k88 _ 88 ?hg (N := 124) ?hd (xs := ([(⟨t869, false, 0⟩ : S88), (⟨wrap64 (t869 - 1), false, 0⟩ : S88)] : List (S88))) (inner := [.int .i64 t869, .bool false, .int .i64 0, .int .i64 (wrap64 (t869 - 1)), .bool false, .int .i64 0]) (ok := fun _ => True) (okp := fun _ => True) ?hr ?hp (fun _ hk => hk) trivial (Below.refl _ _) (Nat.le_refl _) (by simp) ?_; (case hd => rfl); (case hg => rfl); (case hr => first | (go_simp; done) | (go_simp; rfl)); (case hp => exact (Reps.c3 (show Kd.M k88 _ _ _ (⟨t869, false, 0⟩ : S88) [.int .i64 t869, .bool false, .int .i64 0] from (k88_mkM _ _ _ (⟨t869, false, 0⟩ : S88) )) (Reps.c3 (show Kd.M k88 _ _ _ (⟨wrap64 (t869 - 1), false, 0⟩ : S88) [.int .i64 (wrap64 (t869 - 1)), .bool false, .int .i64 0] from (k88_mkM _ _ _ (⟨wrap64 (t869 - 1), false, 0⟩ : S88) )) (Reps.none _ _)))); intro v888 w122 ho123 hb hg_ hnew_; clear hg_ hnew_; (first | rw [← Ny887.out] at ho123 | (simp only [Int.reduceToNat] at ho123; rw [← Ny887.out] at ho123)); have n0_ := Aside0.mk (Kd.R_below (by (with_reducible repeat (first | apply Kd.R_alloc | apply Kd.R_drewN | apply Kd.R_drew)); exact HO883.out) hb); have n1_ := Aside0.mk (Kd.R_elder' (by (with_reducible repeat (first | apply Kd.R_alloc | apply Kd.R_drewN | apply Kd.R_drew)); exact HO886.out) (Kd.R_base ho123) hb); have n2_ := Aside0.mk (Kd.R_lower (Kd.R_new' ho123 (Kd.R_lt (by (with_reducible repeat (first | apply Kd.R_alloc | apply Kd.R_drewN | apply Kd.R_drew)); exact HO886.out))) (below_size (hb4_ HB.out GE865.out GE866.out GE872.out GE878.out))); have n3_ := Aside0.mk (bb_ BK865.out hb); have n4_ := Aside0.mk (bb_ BK866.out hb); have n5_ := Aside0.mk (bb_ BK872.out hb); have n6_ := Aside0.mk (bb_ BK878.out hb); have n7_ := Aside0.mk (below_step (hb4_ HB.out GE865.out GE866.out GE872.out GE878.out) hb); clear HO883; clear HO886; clear BK865; clear BK866; clear BK872; clear BK878; clear HB; have HO883 := n0_; have HO886 := n1_; have HO889 := n2_; have BK865 := n3_; have BK866 := n4_; have BK872 := n5_; have BK878 := n6_; have HB := n7_; clear n0_ n1_ n2_ n3_ n4_ n5_ n6_ n7_; clear hb ho123; obtain ⟨Ao124, co124, eo124⟩ := Kd.R_slice HO883.out; subst eo124; obtain ⟨Ao125, co125, eo125⟩ := Kd.R_slice HO886.out; subst eo125) | ((with_reducible refine gate_callee (f := 50) rfl ?_); refine goesL_ (some 127) rfl rfl Try.func50 (by kernel_rfl) rfl #[.slice Ao124 y881.length co124, .slice Ao125 y884.length co125] rfl arr_ ?_; (with_reducible refine (impl_ReadsOk.calls kj78 _ _ y881 _ _ y884 true _ ?side1 ?side2 ?side3 ?side4 A115.out).mono ?_); (case side1 => repeat (first | exact (Kd.R_reads' HO883.out).2.2 | (with_reducible refine Kd.C_alloc ?_ _) | (with_reducible refine Kd.C_drewN ?_ _) | (with_reducible refine Kd.C_drew ?_))); (case side2 => exact (Kd.R_reads' HO883.out).2.1); (case side3 => repeat (first | exact (Kd.R_reads' HO886.out).2.2 | (with_reducible refine Kd.C_alloc ?_ _) | (with_reducible refine Kd.C_drewN ?_ _) | (with_reducible refine Kd.C_drew ?_))); (case side4 => exact (Kd.R_reads' HO886.out).2.1); rintro e w126 ⟨rfl, hb⟩; refine ⟨_, rfl, ?_⟩; have n0_ := Aside0.mk (Kd.R_below (by (with_reducible repeat (first | apply Kd.R_alloc | apply Kd.R_drewN | apply Kd.R_drew)); exact HO883.out) hb); have n1_ := Aside0.mk (Kd.R_below (by (with_reducible repeat (first | apply Kd.R_alloc | apply Kd.R_drewN | apply Kd.R_drew)); exact HO886.out) hb); have n2_ := Aside0.mk (Kd.R_below (by (with_reducible repeat (first | apply Kd.R_alloc | apply Kd.R_drewN | apply Kd.R_drew)); exact HO889.out) hb); have n3_ := Aside0.mk (bb_ BK865.out hb); have n4_ := Aside0.mk (bb_ BK866.out hb); have n5_ := Aside0.mk (bb_ BK872.out hb); have n6_ := Aside0.mk (bb_ BK878.out hb); have n7_ := Aside0.mk (below_step (hb4_ HB.out GE865.out GE866.out GE872.out GE878.out) hb); clear HO883; clear HO886; clear HO889; clear BK865; clear BK866; clear BK872; clear BK878; clear HB; have HO883 := n0_; have HO886 := n1_; have HO889 := n2_; have BK865 := n3_; have BK866 := n4_; have BK872 := n5_; have BK878 := n6_; have HB := n7_; clear n0_ n1_ n2_ n3_ n4_ n5_ n6_ n7_; (try clear hb); (try clear hb2); (try clear hk); (try clear hi); obtain ⟨Ao127, co127, eo127⟩ := Kd.R_slice HO889.out; subst eo127) | (go_at_call 50; (with_reducible refine (impl_ReadsOk.calls kj78 _ _ y881 _ _ y887 t891 _ ?side1 ?side2 ?side3 ?side4 A117.out).mono ?_); (case side1 => repeat (first | exact (Kd.R_reads' HO883.out).2.2 | (with_reducible refine Kd.C_alloc ?_ _) | (with_reducible refine Kd.C_drewN ?_ _) | (with_reducible refine Kd.C_drew ?_))); (case side2 => exact (Kd.R_reads' HO883.out).2.1); (case side3 => repeat (first | exact (Kd.R_reads' HO889.out).2.2 | (with_reducible refine Kd.C_alloc ?_ _) | (with_reducible refine Kd.C_drewN ?_ _) | (with_reducible refine Kd.C_drew ?_))); (case side4 => exact (Kd.R_reads' HO889.out).2.1); rintro e w128 ⟨rfl, hb⟩; have n0_ := Aside0.mk (Kd.R_below (by (with_reducible repeat (first | apply Kd.R_alloc | apply Kd.R_drewN | apply Kd.R_drew)); exact HO883.out) hb); have n1_ := Aside0.mk (Kd.R_below (by (with_reducible repeat (first | apply Kd.R_alloc | apply Kd.R_drewN | apply Kd.R_drew)); exact HO886.out) hb); have n2_ := Aside0.mk (Kd.R_below (by (with_reducible repeat (first | apply Kd.R_alloc | apply Kd.R_drewN | apply Kd.R_drew)); exact HO889.out) hb); have n3_ := Aside0.mk (bb_ BK865.out hb); have n4_ := Aside0.mk (bb_ BK866.out hb); have n5_ := Aside0.mk (bb_ BK872.out hb); have n6_ := Aside0.mk (bb_ BK878.out hb); have n7_ := Aside0.mk (below_step (hb4_ HB.out GE865.out GE866.out GE872.out GE878.out) hb); clear HO883; clear HO886; clear HO889; clear BK865; clear BK866; clear BK872; clear BK878; clear HB; have HO883 := n0_; have HO886 := n1_; have HO889 := n2_; have BK865 := n3_; have BK866 := n4_; have BK872 := n5_; have BK878 := n6_; have HB := n7_; clear n0_ n1_ n2_ n3_ n4_ n5_ n6_ n7_; (try clear hb); (try clear hb2); (try clear hk); (try clear hi)))
                        go_ret
                        exact ⟨er_, hb4_ HB.out GE865.out GE866.out GE872.out GE878.out⟩
                      · replace c116 := Bool.eq_false_iff.mpr c116
                        subst c116
                        have H1 : (some false) = some r := by rw [if_neg (show ¬ (false = true) by decide)] at H; exact H
                        clear H
                        have H := H1
                        clear H1
                        obtain rfl := Option.some.inj H
                        exact absurd hr_ (by decide)
      · rw [if_neg c8] at H
        have c8b0 : (t871 == 0) = false := beq_eq_false_iff_ne.mpr c8
        have c8b1 : (t871 != 0) = true := bne_iff_ne.mpr c8
        by_cases c129 : t869 = 0
        · rw [if_pos c129] at H
          have c129b0 : (t869 == 0) = true := beq_iff_eq.mpr c129
          have c129b1 : (t869 != 0) = false := bne_eq_false_iff_eq.mpr c129
          clear c129
          obtain rfl := Option.some.inj H
          go_enter Try.func9, Try.ntmps9
          go_wp2_with (first | ((with_reducible refine gate_callee (f := 25) rfl ?_); refine goesL_ (some 18) rfl rfl Try.func25 (by kernel_rfl) rfl #[.slice A0 l0.length c0] rfl arr_ ?_; (with_reducible refine (laws_big.calls _ _ l0 false _ ?side1 ?side2 A2.out).mono ?_); (case side1 => repeat (first | exact HR0.out | (with_reducible refine Kd.C_alloc ?_ _) | (with_reducible refine Kd.C_drewN ?_ _) | (with_reducible refine Kd.C_drew ?_))); (case side2 => exact HC0.out); rintro e w' ⟨rfl, ⟨nd, rfl⟩⟩; refine ⟨_, rfl, ?_⟩) | ((with_reducible refine gate_callee (f := 52) rfl ?_); refine goesL_ (some 21) rfl rfl Try.func52 (by kernel_rfl) rfl #[.slice A0 l0.length c0] rfl arr_ ?_; (with_reducible refine (spec_DrawAppRead.calls k _ _ l0 t860 t861 t862 t863 t864 _ ?side1 ?side2 A4.out).mono ?_); (case side1 => repeat (first | exact HR0.out | (with_reducible refine Kd.C_alloc ?_ _) | (with_reducible refine Kd.C_drewN ?_ _) | (with_reducible refine Kd.C_drew ?_))); (case side2 => exact HC0.out); rintro e w130 ⟨rfl, hb⟩; refine ⟨_, rfl, ?_⟩; have n0_ := Aside0.mk (below_step (hb_ HB.out) hb); clear HB; have HB := n0_; clear n0_; (try clear hb); (try clear hb2); (try clear hk); (try clear hi)) | ((with_reducible refine gate_dst (N := 3) rfl ?_); refine box_event ?hg (N := 3) ?hd (cs := #[.bool false, .int .i64 0]) (t := 66) ?hr ?_; (case hd => rfl); (case hg => rfl); (case hr => first | (go_simp; done) | (go_simp; rfl)); intro gb865 hg w131 hbox hb; have n0_ := Aside0.mk (below_step (hb_ HB.out) hb); have n1_ := Aside0.mk (hbox); have n2_ := Aside0.mk ((by rw [hg]; exact (below_size (hb_ HB.out)) : w.heap.size ≤ gb865)); have n3_ := Aside0.mk ((by rw [hg]; exact (below_size (hb_ HB.out)) : w.heap.size ≤ gb865)); clear HB; have HB := n0_; have BK865 := n1_; have GW865 := n2_; have GE865 := n3_; clear n0_ n1_ n2_ n3_; clear hb hbox hg) | ((with_reducible refine gate_dst (N := 5) rfl ?_); refine box_event ?hg (N := 5) ?hd (cs := #[.int .i64 0, .int .i64 0]) (t := 81) ?hr ?_; (case hd => rfl); (case hg => rfl); (case hr => first | (go_simp; done) | (go_simp; rfl)); intro gb866 hg w132 hbox hb; have n0_ := Aside0.mk (bb_ BK865.out hb); have n1_ := Aside0.mk (below_step (hb1_ HB.out GE865.out) hb); have n2_ := Aside0.mk (hbox); have n3_ := Aside0.mk ((by rw [hg]; exact (below_size (hb1_ HB.out GE865.out)) : w.heap.size ≤ gb866)); have n4_ := Aside0.mk ((by rw [hg]; exact (below_size (hb1_ HB.out GE865.out)) : w.heap.size ≤ gb866)); have n5_ := Aside0.mk ((bl_ hg BK865.out : gb865 ≠ gb866)); have n6_ := Aside0.mk ((bg_ hg BK865.out : gb866 ≠ gb865)); clear BK865; clear HB; have BK865 := n0_; have HB := n1_; have BK866 := n2_; have GW866 := n3_; have GE866 := n4_; have NB865_866 := n5_; have NB866_865 := n6_; clear n0_ n1_ n2_ n3_ n4_ n5_ n6_; clear hb hbox hg; have hnb133 := NB865_866.out; have hnc133 := NB866_865.out; have hcz134_0 := bc_ BK865.out 0 (.bool false) rfl; have hcz134_1 := bc_ BK865.out 1 (.int .i64 0) rfl; have hfz134_0 := blk_frozen BK865.out 0; have hfz134_1 := blk_frozen BK865.out 1; have hcz135_0 := bc_ BK866.out 0 (.int .i64 0) rfl; have hcz135_1 := bc_ BK866.out 1 (.int .i64 0) rfl; have hfz135_0 := blk_frozen BK866.out 0; have hfz135_1 := blk_frozen BK866.out 1) | ((with_reducible refine gate_callee (f := 53) rfl ?_); refine goesL_ (some 29) rfl rfl Try.func53 (by kernel_rfl) rfl #[.agg #[.bool t860, .int .i64 t861], .bool t862, .agg #[.int .i64 t863, .int .i64 t864]] rfl arr_ ?_; (with_reducible refine (impl_AppRead.calls k t860 t861 t862 t863 t864 t867 t868 t869 t870 t871 _ A5.out).mono ?_); rintro e w136 ⟨rfl, hb⟩; refine ⟨_, rfl, ?_⟩; have n0_ := Aside0.mk (blk_below (g := gb865) (o := .cells #[.bool t860, .int .i64 t861] 66 (0, 0)) (by (with_reducible repeat (first | refine blk_drewN ?_ _ | refine blk_drew ?_ | refine blk_alloc ?_ _)); refine blk_far ?_ NB865_866.out _; (with_reducible repeat (first | refine blk_drewN ?_ _ | refine blk_drew ?_ | refine blk_alloc ?_ _)); refine blk_far ?_ NB865_866.out _; (with_reducible repeat (first | refine blk_drewN ?_ _ | refine blk_drew ?_ | refine blk_alloc ?_ _)); refine blk_put (cs := #[.bool t860, .int .i64 0]) ?_ 1 _ rfl; (with_reducible repeat (first | refine blk_drewN ?_ _ | refine blk_drew ?_ | refine blk_alloc ?_ _)); refine blk_put (cs := #[.bool false, .int .i64 0]) ?_ 0 _ rfl; (with_reducible repeat (first | refine blk_drewN ?_ _ | refine blk_drew ?_ | refine blk_alloc ?_ _)); exact BK865.out) hb); have n1_ := Aside0.mk (blk_below (g := gb866) (o := .cells #[.int .i64 t863, .int .i64 t864] 81 (0, 0)) (by (with_reducible repeat (first | refine blk_drewN ?_ _ | refine blk_drew ?_ | refine blk_alloc ?_ _)); refine blk_put (cs := #[.int .i64 t863, .int .i64 0]) ?_ 1 _ rfl; (with_reducible repeat (first | refine blk_drewN ?_ _ | refine blk_drew ?_ | refine blk_alloc ?_ _)); refine blk_put (cs := #[.int .i64 0, .int .i64 0]) ?_ 0 _ rfl; (with_reducible repeat (first | refine blk_drewN ?_ _ | refine blk_drew ?_ | refine blk_alloc ?_ _)); refine blk_far ?_ NB866_865.out _; (with_reducible repeat (first | refine blk_drewN ?_ _ | refine blk_drew ?_ | refine blk_alloc ?_ _)); refine blk_far ?_ NB866_865.out _; (with_reducible repeat (first | refine blk_drewN ?_ _ | refine blk_drew ?_ | refine blk_alloc ?_ _)); exact BK866.out) hb); have n2_ := Aside0.mk (below_step (hb2_ HB.out GE865.out GE866.out) hb); clear BK865; clear BK866; clear HB; have BK865 := n0_; have BK866 := n1_; have HB := n2_; clear n0_ n1_ n2_; (try clear hb); (try clear hb2); (try clear hk); (try clear hi)) | ((with_reducible refine gate_dst (N := 6) rfl ?_); refine box_event ?hg (N := 6) ?hd (cs := #[.bool false, .int .i64 0]) (t := 66) ?hr ?_; (case hd => rfl); (case hg => rfl); (case hr => first | (go_simp; done) | (go_simp; rfl)); intro gb872 hg w137 hbox hb; have n0_ := Aside0.mk (bb_ BK865.out hb); have n1_ := Aside0.mk (bb_ BK866.out hb); have n2_ := Aside0.mk (below_step (hb2_ HB.out GE865.out GE866.out) hb); have n3_ := Aside0.mk (hbox); have n4_ := Aside0.mk ((by rw [hg]; exact (below_size (hb2_ HB.out GE865.out GE866.out)) : w.heap.size ≤ gb872)); have n5_ := Aside0.mk ((by rw [hg]; exact (below_size (hb2_ HB.out GE865.out GE866.out)) : w.heap.size ≤ gb872)); have n6_ := Aside0.mk ((bl_ hg BK865.out : gb865 ≠ gb872)); have n7_ := Aside0.mk ((bg_ hg BK865.out : gb872 ≠ gb865)); have n8_ := Aside0.mk ((bl_ hg BK866.out : gb866 ≠ gb872)); have n9_ := Aside0.mk ((bg_ hg BK866.out : gb872 ≠ gb866)); clear BK865; clear BK866; clear HB; have BK865 := n0_; have BK866 := n1_; have HB := n2_; have BK872 := n3_; have GW872 := n4_; have GE872 := n5_; have NB865_872 := n6_; have NB872_865 := n7_; have NB866_872 := n8_; have NB872_866 := n9_; clear n0_ n1_ n2_ n3_ n4_ n5_ n6_ n7_ n8_ n9_; clear hb hbox hg; have hnb138 := NB872_865.out; have hnc138 := NB865_872.out; have hnb139 := NB872_866.out; have hnc139 := NB866_872.out; have hcz140_0 := bc_ BK872.out 0 (.bool false) rfl; have hcz140_1 := bc_ BK872.out 1 (.int .i64 0) rfl; have hfz140_0 := blk_frozen BK872.out 0; have hfz140_1 := blk_frozen BK872.out 1; have hcz141_0 := bc_ BK865.out 0 (.bool t860) rfl; have hcz141_1 := bc_ BK865.out 1 (.int .i64 t861) rfl; have hfz141_0 := blk_frozen BK865.out 0; have hfz141_1 := blk_frozen BK865.out 1; have hcz142_0 := bc_ BK866.out 0 (.int .i64 t863) rfl; have hcz142_1 := bc_ BK866.out 1 (.int .i64 t864) rfl; have hfz142_0 := blk_frozen BK866.out 0; have hfz142_1 := blk_frozen BK866.out 1) | ((with_reducible refine gate_callee (f := 54) rfl ?_); refine goesL_ (some 38) rfl rfl Try.func54 (by kernel_rfl) rfl #[.agg #[.bool t860, .int .i64 t861], .bool t862, .agg #[.int .i64 t863, .int .i64 t864]] rfl arr_ ?_; (with_reducible refine (spec_AppRead.calls k t860 t861 t862 t863 t864 t873 t874 t875 t876 t877 _ A6.out).mono ?_); rintro e w143 ⟨rfl, hb⟩; refine ⟨_, rfl, ?_⟩; have n0_ := Aside0.mk (blk_below (g := gb865) (o := .cells #[.bool t860, .int .i64 t861] 66 (0, 0)) (by (with_reducible repeat (first | refine blk_drewN ?_ _ | refine blk_drew ?_ | refine blk_alloc ?_ _)); refine blk_far ?_ NB865_872.out _; (with_reducible repeat (first | refine blk_drewN ?_ _ | refine blk_drew ?_ | refine blk_alloc ?_ _)); refine blk_far ?_ NB865_872.out _; (with_reducible repeat (first | refine blk_drewN ?_ _ | refine blk_drew ?_ | refine blk_alloc ?_ _)); exact BK865.out) hb); have n1_ := Aside0.mk (blk_below (g := gb866) (o := .cells #[.int .i64 t863, .int .i64 t864] 81 (0, 0)) (by (with_reducible repeat (first | refine blk_drewN ?_ _ | refine blk_drew ?_ | refine blk_alloc ?_ _)); refine blk_far ?_ NB866_872.out _; (with_reducible repeat (first | refine blk_drewN ?_ _ | refine blk_drew ?_ | refine blk_alloc ?_ _)); refine blk_far ?_ NB866_872.out _; (with_reducible repeat (first | refine blk_drewN ?_ _ | refine blk_drew ?_ | refine blk_alloc ?_ _)); exact BK866.out) hb); have n2_ := Aside0.mk (blk_below (g := gb872) (o := .cells #[.bool t867, .int .i64 t868] 66 (0, 0)) (by (with_reducible repeat (first | refine blk_drewN ?_ _ | refine blk_drew ?_ | refine blk_alloc ?_ _)); refine blk_put (cs := #[.bool t867, .int .i64 0]) ?_ 1 _ rfl; (with_reducible repeat (first | refine blk_drewN ?_ _ | refine blk_drew ?_ | refine blk_alloc ?_ _)); refine blk_put (cs := #[.bool false, .int .i64 0]) ?_ 0 _ rfl; (with_reducible repeat (first | refine blk_drewN ?_ _ | refine blk_drew ?_ | refine blk_alloc ?_ _)); exact BK872.out) hb); have n3_ := Aside0.mk (below_step (hb3_ HB.out GE865.out GE866.out GE872.out) hb); clear BK865; clear BK866; clear BK872; clear HB; have BK865 := n0_; have BK866 := n1_; have BK872 := n2_; have HB := n3_; clear n0_ n1_ n2_ n3_; (try clear hb); (try clear hb2); (try clear hk); (try clear hi)) | ((with_reducible refine gate_dst (N := 10) rfl ?_); refine box_event ?hg (N := 10) ?hd (cs := #[.bool false, .int .i64 0]) (t := 66) ?hr ?_; (case hd => rfl); (case hg => rfl); (case hr => first | (go_simp; done) | (go_simp; rfl)); intro gb878 hg w144 hbox hb; have n0_ := Aside0.mk (bb_ BK865.out hb); have n1_ := Aside0.mk (bb_ BK866.out hb); have n2_ := Aside0.mk (bb_ BK872.out hb); have n3_ := Aside0.mk (below_step (hb3_ HB.out GE865.out GE866.out GE872.out) hb); have n4_ := Aside0.mk (hbox); have n5_ := Aside0.mk ((by rw [hg]; exact (below_size (hb3_ HB.out GE865.out GE866.out GE872.out)) : w.heap.size ≤ gb878)); have n6_ := Aside0.mk ((by rw [hg]; exact (below_size (hb3_ HB.out GE865.out GE866.out GE872.out)) : w.heap.size ≤ gb878)); have n7_ := Aside0.mk ((bl_ hg BK865.out : gb865 ≠ gb878)); have n8_ := Aside0.mk ((bg_ hg BK865.out : gb878 ≠ gb865)); have n9_ := Aside0.mk ((bl_ hg BK866.out : gb866 ≠ gb878)); have n10_ := Aside0.mk ((bg_ hg BK866.out : gb878 ≠ gb866)); have n11_ := Aside0.mk ((bl_ hg BK872.out : gb872 ≠ gb878)); have n12_ := Aside0.mk ((bg_ hg BK872.out : gb878 ≠ gb872)); clear BK865; clear BK866; clear BK872; clear HB; have BK865 := n0_; have BK866 := n1_; have BK872 := n2_; have HB := n3_; have BK878 := n4_; have GW878 := n5_; have GE878 := n6_; have NB865_878 := n7_; have NB878_865 := n8_; have NB866_878 := n9_; have NB878_866 := n10_; have NB872_878 := n11_; have NB878_872 := n12_; clear n0_ n1_ n2_ n3_ n4_ n5_ n6_ n7_ n8_ n9_ n10_ n11_ n12_; clear hb hbox hg; have hnb145 := NB878_865.out; have hnc145 := NB865_878.out; have hnb146 := NB878_866.out; have hnc146 := NB866_878.out; have hnb147 := NB878_872.out; have hnc147 := NB872_878.out; have hcz148_0 := bc_ BK878.out 0 (.bool false) rfl; have hcz148_1 := bc_ BK878.out 1 (.int .i64 0) rfl; have hfz148_0 := blk_frozen BK878.out 0; have hfz148_1 := blk_frozen BK878.out 1))
          go_ret
          exact ⟨er_, hb4_ HB.out GE865.out GE866.out GE872.out GE878.out⟩
        · rw [if_neg c129] at H
          have c129b0 : (t869 == 0) = false := beq_eq_false_iff_ne.mpr c129
          have c129b1 : (t869 != 0) = true := bne_iff_ne.mpr c129
          obtain rfl := Option.some.inj H
          exact absurd hr_ (by decide)
    · rw [if_neg c7] at H
      have c7b0 : (t871 == t877) = false := beq_eq_false_iff_ne.mpr c7
      have c7b1 : (t871 != t877) = true := bne_iff_ne.mpr c7
      obtain rfl := Option.some.inj H
      exact absurd hr_ (by decide)
end Go.Proofs.Ytcgdnfaclbnflaa.P

namespace Go.Proofs.Ytcgdnfaclbnflaa.G
open Go.RowKit Go.Proofs.YtcgdnfaclbnflaaW.PrintWords
theorem wrap_id {x : Int} (h1 : -9223372036854775808 ≤ x) (h2 : x ≤ 9223372036854775807) : wrap64 x = x := by unfold wrap64; omega
theorem wrap_succ {i n : Nat} (h : i < n) (hn : n ≤ 9223372036854775807) : wrap64 ((i : Int) + 1) = ((i + 1 : Nat) : Int) := by unfold wrap64; omega
end Go.Proofs.Ytcgdnfaclbnflaa.G
namespace Go.Proofs.Ytcgdnfaclbnflaa.P
open Go.RowKit Go.Proofs.YtcgdnfaclbnflaaW.PrintWords Go.Proofs.YtcgdnfaclbnflaaW.PrintLast Go.Proofs.YtcgdnfaclbnflaaW.PrintMore
attribute [local go_sem] max2_int min2_int max_two min_two max_three min_three max_four min_four
set_option linter.unusedVariables false
set_option linter.unusedSimpArgs false
end Go.Proofs.Ytcgdnfaclbnflaa.P

namespace Go.Proofs.Ytcgdnfaclbnflaa.P
open Go.RowKit Go.Proofs.YtcgdnfaclbnflaaW.PrintWords Go.Proofs.YtcgdnfaclbnflaaW.PrintLast Go.Proofs.YtcgdnfaclbnflaaW.PrintMore
attribute [local go_sem] max2_int min2_int max_two min_two max_three min_three max_four min_four
set_option linter.unusedVariables false
set_option linter.unusedSimpArgs false
end Go.Proofs.Ytcgdnfaclbnflaa.P

namespace Go.Proofs.Ytcgdnfaclbnflaa.P
open Go.RowKit Go.Proofs.YtcgdnfaclbnflaaW.PrintWords Go.Proofs.YtcgdnfaclbnflaaW.PrintLast Go.Proofs.YtcgdnfaclbnflaaW.PrintMore
attribute [local go_sem] max2_int min2_int max_two min_two max_three min_three max_four min_four
set_option linter.unusedVariables false
set_option linter.unusedSimpArgs false
end Go.Proofs.Ytcgdnfaclbnflaa.P

namespace Go.Proofs.Ytcgdnfaclbnflaa.P
open Go.RowKit Go.Proofs.YtcgdnfaclbnflaaW.PrintWords Go.Proofs.YtcgdnfaclbnflaaW.PrintLast Go.Proofs.YtcgdnfaclbnflaaW.PrintMore
attribute [local go_sem] max2_int min2_int max_two min_two max_three min_three max_four min_four
set_option linter.unusedVariables false
set_option linter.unusedSimpArgs false
end Go.Proofs.Ytcgdnfaclbnflaa.P

namespace Go.Proofs.Ytcgdnfaclbnflaa.C
open Go.RowKit Go.Proofs.Ytcgdnfaclbnflaa.P Go.Proofs.Ytcgdnfaclbnflaa.G
theorem l1In (a b c : Int) : spec_l1In.f a b c = some (decide (b ≤ a ∧ a ≤ c)) := by
  unfold spec_l1In.f; by_cases h : a ≥ b <;> simp [h] <;> omega
theorem in_ (a b c : Int) : impl_in.f a b c = some (decide (b ≤ a ∧ a ≤ c)) := by
  unfold impl_in.f; by_cases h : b ≤ a <;> simp [h]
end Go.Proofs.Ytcgdnfaclbnflaa.C
namespace Go.Proofs.Ytcgdnfaclbnflaa.C
open Go.RowKit Go.Proofs.Ytcgdnfaclbnflaa.P Go.Proofs.Ytcgdnfaclbnflaa.G Go.Proofs.YtcgdnfaclbnflaaW.PrintWords
theorem and255 (n : Int) : Go.bits .and .i64 n 255 = n % 256 := by
  have h : (BitVec.ofInt 64 255).toNat = 2 ^ 8 - 1 := by decide
  have key : (BitVec.ofInt 64 n &&& BitVec.ofInt 64 255).toNat = (n % ((2 ^ 64 : Nat) : Int)).toNat % 2 ^ 8 := by
    rw [BitVec.toNat_and, BitVec.toNat_ofInt, h, Nat.and_two_pow_sub_one_eq_mod]
  show IntKind.i64.wrap ((BitVec.ofInt 64 n &&& BitVec.ofInt 64 255).toNat : Nat) = n % 256
  rw [key, IntKind.wrap_i64]
  omega
def At (s : List Int) (p : Int) : Prop := 0 ≤ p ∧ p ≤ s.length ∧ s.length ≤ 1048576
theorem dByte (s : List Int) (p z : Int) (h : At s p) : ∃ b p' z', spec_l1Byte.f s p z = some (b, p', z') ∧ At s p' ∧ 0 ≤ b ∧ b ≤ 255 := by
  unfold At at *
  unfold spec_l1Byte.f
  by_cases hp : p < (s.length : Int)
  · rw [if_pos hp, if_pos h.1, and255]
    refine ⟨_, _, _, rfl, ⟨?_, ?_, h.2.2⟩, Int.emod_nonneg _ (by omega), by have := Int.emod_lt_of_pos (wrap64 (Go.bits .and .i64 (Go.bits .xor .i64 (wrap64 (wrap64 (z * 6364136223846793005) + 1442695040888963407) / 8589934592) (wrap64 (wrap64 (z * 6364136223846793005) + 1442695040888963407) / 35184372088832)) 255 + wrap64 (rd s p))) (show (0 : Int) < 256 by omega); omega⟩
    · rw [wrap_id (by omega) (by omega)]; omega
    · rw [wrap_id (by omega) (by omega)]; omega
  · rw [if_neg hp, and255]
    refine ⟨_, _, _, rfl, h, Int.emod_nonneg _ (by omega), by have := Int.emod_lt_of_pos (Go.bits .xor .i64 (wrap64 (wrap64 (z * 6364136223846793005) + 1442695040888963407) / 8589934592) (wrap64 (wrap64 (z * 6364136223846793005) + 1442695040888963407) / 35184372088832)) (show (0 : Int) < 256 by omega); omega⟩
theorem dBelow (s : List Int) (p z n : Int) (h : At s p) : ∃ v p' z', spec_l1Below.f s p z n = some (v, p', z') ∧ At s p' ∧ 0 ≤ v ∧ (0 < n → v < n) := by
  unfold spec_l1Below.f
  by_cases h0 : n ≤ 0
  · rw [if_pos h0]; exact ⟨0, p, z, rfl, h, by omega, by omega⟩
  rw [if_neg h0]
  by_cases h1 : n ≤ 256
  · rw [if_pos h1]
    obtain ⟨b, p1, z1, e1, a1, b1, b2⟩ := dByte s p z h
    rw [e1]; simp only [Option.bind_some]
    rw [if_neg (by omega)]
    exact ⟨_, _, _, rfl, a1, Int.tmod_nonneg _ b1, fun _ => Int.tmod_lt_of_pos _ (by omega)⟩
  · rw [if_neg h1]
    obtain ⟨b, p1, z1, e1, a1, b1, b2⟩ := dByte s p z h
    rw [e1]; simp only [Option.bind_some]
    obtain ⟨c, p2, z2, e2, a2, c1, c2⟩ := dByte s p1 z1 a1
    rw [e2]; simp only [Option.bind_some]
    obtain ⟨d, p3, z3, e3, a3, d1, d2⟩ := dByte s p2 z2 a2
    rw [e3]; simp only [Option.bind_some]
    obtain ⟨e, p4, z4, e4, a4, f1, f2⟩ := dByte s p3 z3 a3
    rw [e4]; simp only [Option.bind_some]
    rw [if_neg (by omega), wrap_id (x := b * 16777216) (by omega) (by omega), wrap_id (x := c * 65536) (by omega) (by omega), wrap_id (x := d * 256) (by omega) (by omega), wrap_id (x := b * 16777216 + c * 65536) (by omega) (by omega), wrap_id (x := b * 16777216 + c * 65536 + d * 256) (by omega) (by omega), wrap_id (x := b * 16777216 + c * 65536 + d * 256 + e) (by omega) (by omega)]
    exact ⟨_, _, _, rfl, a4, Int.tmod_nonneg _ (by omega), fun _ => Int.tmod_lt_of_pos _ (by omega)⟩
theorem dPick (s : List Int) (p z : Int) (xs : List Int) (h : At s p) (hx : xs ≠ []) (hl : xs.length ≤ 256) : ∃ v p' z', spec_l1PickInt.f s p z xs = some (v, p', z') ∧ At s p' ∧ v ∈ xs := by
  unfold spec_l1PickInt.f
  have hn : 0 < xs.length := List.length_pos_iff.2 hx
  obtain ⟨v, p1, z1, e1, a1, b1, b2⟩ := dBelow s p z (xs.length : Int) h
  rw [e1]; simp only [Option.bind_some]
  have hv := b2 (by omega)
  rw [if_pos b1, if_pos hv]
  obtain ⟨i, rfl⟩ := Int.eq_ofNat_of_zero_le b1
  have hi : i < xs.length := by omega
  refine ⟨_, _, _, rfl, a1, ?_⟩
  have : rd xs (i : Int) = xs[i] := by unfold rd; simp [List.getD, hi]
  rw [this]; exact List.getElem_mem hi
theorem dOnce (s : List Int) (p z n : Int) (h : At s p) : ∃ v p' z', spec_l1Once.f s p z n = some (v, p', z') ∧ At s p' := by
  unfold spec_l1Once.f
  obtain ⟨v, p1, z1, e1, a1, b1, b2⟩ := dBelow s p z n h
  rw [e1]; exact ⟨_, _, _, rfl, a1⟩
theorem dNew (s : List Int) (hs : s.length ≤ 1048576) (k : Nat) (hk : 4100 < k) : ∃ z, spec_l1New.f k s = some (s, 0, z) ∧ At s 0 := by
  unfold spec_l1New.f
  have : ∀ (d i k : Nat) (z : Int), i + d = 4000 → d < k → ∃ z', spec_l1New.l0 k s z (i : Int) = some (s, 0, z') := by
    intro d
    induction d with
    | zero =>
      intro i k z hi hk
      obtain ⟨k, rfl⟩ : ∃ j, k = j + 1 := ⟨k - 1, by omega⟩
      simp only [spec_l1New.l0]
      obtain rfl : i = 4000 := by omega
      split
      · exact ⟨_, by rw [if_neg (by omega)]⟩
      · exact ⟨_, rfl⟩
    | succ d ih =>
      intro i k z hi hk
      obtain ⟨k, rfl⟩ : ∃ j, k = j + 1 := ⟨k - 1, by omega⟩
      simp only [spec_l1New.l0]
      split
      · rw [if_pos (by omega), if_pos (by omega), wrap_succ (n := 4000) (by omega) (by omega)]
        exact ih (i + 1) k _ (by omega) (by omega)
      · exact ⟨_, rfl⟩
  obtain ⟨z, h⟩ := this 4000 0 k (wrap64 (72072 + (s.length : Int))) (by omega) (by omega)
  exact ⟨z, h, by unfold At; omega⟩
theorem dTime1 (s : List Int) (p z : Int) (h : At s p) : ∃ v p' z', spec_l1DrawTime.f s p z = some (v, p', z') ∧ At s p' := by
  unfold spec_l1DrawTime.f
  obtain ⟨a, p1, z1, e1, a1, _, _⟩ := dBelow s p z 12 h
  rw [e1]; simp only [Option.bind_some]
  split
  · obtain ⟨x, p4, z4, e4, a4, _⟩ := dPick s p1 z1 [(-1000000000000), 1000000000000, 999999999999, (-999999999999), 0] a1 (by simp) (by simp)
    rw [e4]; exact ⟨_, _, _, rfl, a4⟩
  split
  · obtain ⟨x, p4, z4, e4, a4, _⟩ := dBelow s p1 z1 1000000000 a1
    rw [e4]; simp only [Option.bind_some]
    obtain ⟨y, p5, z5, e5, a5, _⟩ := dPick s p4 z4 [1, (-1), 900] a4 (by simp) (by simp)
    rw [e5]; exact ⟨_, _, _, rfl, a5⟩
  · obtain ⟨x, p4, z4, e4, a4, _⟩ := dBelow s p1 z1 120 a1
    rw [e4]; exact ⟨_, _, _, rfl, a4⟩
theorem l1Min_some (a b : Int) : ∃ m, spec_l1Min.f a b = some m := by unfold spec_l1Min.f; split <;> exact ⟨_, rfl⟩
theorem dIval1 (s : List Int) (p z : Int) (h : At s p) : ∃ a b p' z', spec_l1DrawIval.f s p z = some (a, b, p', z') ∧ At s p' := by
  unfold spec_l1DrawIval.f
  obtain ⟨t, p1, z1, e1, a1⟩ := dTime1 s p z h
  rw [e1]; simp only [Option.bind_some]
  obtain ⟨u, p2, z2, e2, a2, _⟩ := dBelow s p1 z1 60 a1
  rw [e2]; simp only [Option.bind_some]
  obtain ⟨m, em⟩ := l1Min_some (wrap64 (t + u)) 1000000000000
  rw [em]; simp only [Option.bind_some]
  obtain ⟨c, p3, z3, e3, a3, _⟩ := dBelow s p2 z2 30 a2
  rw [e3]; simp only [Option.bind_some]
  split
  · exact ⟨_, _, _, _, rfl, a3⟩
  split
  · obtain ⟨x, p4, z4, e4, a4, _⟩ := dPick s p3 z3 [1000000000000, 1000000000001, 9223372036854775807] a3 (by simp) (by simp)
    rw [e4]; exact ⟨_, _, _, _, rfl, a4⟩
  split
  · obtain ⟨x, p4, z4, e4, a4, _⟩ := dPick s p3 z3 [(-1000000000000), (-1000000000001), (-9223372036854775807)] a3 (by simp) (by simp)
    rw [e4]; exact ⟨_, _, _, _, rfl, a4⟩
  · exact ⟨_, _, _, _, rfl, a3⟩
end Go.Proofs.Ytcgdnfaclbnflaa.C
namespace Go.Proofs.Ytcgdnfaclbnflaa.C
open Go.RowKit Go.Proofs.Ytcgdnfaclbnflaa.P Go.Proofs.Ytcgdnfaclbnflaa.G
def ivalOk (a b : Int) : Bool := decide (-1000000000000 ≤ a) && decide (a ≤ b) && decide (b ≤ 1000000000000)
theorem ivalOk_iff (a b : Int) : ivalOk a b = true ↔ -1000000000000 ≤ a ∧ a ≤ b ∧ b ≤ 1000000000000 := by unfold ivalOk; simp; omega
theorem sIvalOk (a b : Int) : spec_IvalOk.f a b = some (ivalOk a b) := by
  have e : ivalOk a b = decide (-1000000000000 ≤ a ∧ a ≤ b ∧ b ≤ 1000000000000) := by
    rw [Bool.eq_iff_iff, ivalOk_iff, decide_eq_true_iff]
  rw [e]
  unfold spec_IvalOk.f; simp only [l1In, Option.bind_some]
  by_cases h1 : a ≤ b
  · rw [if_pos h1]
    by_cases h2 : (-1000000000000 ≤ a ∧ a ≤ 1000000000000)
    · rw [decide_eq_true h2, if_pos rfl]; congr 1; rw [decide_eq_decide]; omega
    · rw [decide_eq_false h2, if_neg (by decide)]; congr 1; symm; apply decide_eq_false; omega
  · rw [if_neg h1]; congr 1; symm; apply decide_eq_false; omega
theorem iIvalOk (a b : Int) : impl_IvalOk.f a b = some (ivalOk a b) := by
  unfold impl_IvalOk.f ivalOk
  by_cases h1 : a ≤ b <;> by_cases h2 : -1000000000000 ≤ a <;> by_cases h3 : b ≤ 1000000000000 <;> simp [h1, h2, h3]
end Go.Proofs.Ytcgdnfaclbnflaa.C
set_option linter.unusedVariables false
set_option linter.unusedSimpArgs false
namespace Go.Proofs.Ytcgdnfaclbnflaa.G
open Go.RowKit Go.Proofs.YtcgdnfaclbnflaaW.PrintWords
end Go.Proofs.Ytcgdnfaclbnflaa.G

