/- Texts of the seat's proofs, part 2: functions of the program told as plain functions, with their contracts, and what is shown of them. No condition. -/
import Derived.Test.YtllpmpfchidhoaaUKFGT
import Derived.Test.YtllpmpfchidhoaaKFGT1
set_option linter.unusedVariables false
set_option linter.unusedSimpArgs false
namespace Go.Proofs.Ytllpmpfchidhoaa.P
open Go.RowKit Go.Proofs.YtllpmpfchidhoaaW.PrintWords Go.Proofs.YtllpmpfchidhoaaW.PrintLast Go.Proofs.YtllpmpfchidhoaaW.PrintMore
attribute [local go_sem] max2_int min2_int max_two min_two max_three min_three max_four min_four
set_option linter.unusedVariables false
set_option linter.unusedSimpArgs false
def spec_l13DrawAny.l0 : Nat → List Int → Int → Int → Int → Int → List (S42) → Option (Int × Int × (List (S42)) × Int × Int)
 | 0, _, _, _, _, _, _ => none
 | k + 1, x1000, x1001, x1002, x177000, x177001, x177002 => if (x177002.length : Int) ≤ 12 then (if x177002.length < 8796093022208 then (spec_l13DrawAny.l0 k x1000 x1001 x1002 x177000 x177001 (x177002 ++ [(⟨0, 1⟩ : S42)])) else (none)) else (some (x177000, x177001, x177002, x1001, x1002))
def spec_l13DrawAny.f (k : Nat) (s0_0 : List Int) (s0_1 : Int) (s0_2 : Int) : Option (Int × Int × (List (S42)) × Int × Int) := (spec_l13DrawPlan.f k s0_0 s0_1 s0_2).bind fun bt169 => ((spec_l1Below.f s0_0 bt169.2.2.2.1 bt169.2.2.2.2 25).bind fun bt177 => (if bt177.1 = 0 then ((spec_l2DrawCount.f s0_0 bt177.2.1 bt177.2.2).bind fun bt180 => (some (bt180.1, bt169.2.1, bt169.2.2.1, bt180.2.1, bt180.2.2))) else (if bt177.1 = 1 then ((spec_l1PickInt.f s0_0 bt177.2.1 bt177.2.2 (([(-1), 100000, 100001] : List Int))).bind fun bt186 => (some (bt169.1, bt186.1, bt169.2.2.1, bt186.2.1, bt186.2.2))) else (if bt177.1 = 2 then ((spec_l1PickInt.f s0_0 bt177.2.1 bt177.2.2 (([(-1), 8, 7] : List Int))).bind fun bt192 => (if 0 < (bt169.2.2.1.length : Int) then (some (bt169.1, bt169.2.1, (bt169.2.2.1.set (0 : Int).toNat (⟨bt192.1, (rd_T42 bt169.2.2.1 0).f1⟩ : S42)), bt192.2.1, bt192.2.2)) else (none))) else (if bt177.1 = 3 then ((spec_l1PickInt.f s0_0 bt177.2.1 bt177.2.2 (([0, 1000000, 1000001] : List Int))).bind fun bt199 => (if 0 < (bt169.2.2.1.length : Int) then (some (bt169.1, bt169.2.1, (bt169.2.2.1.set (0 : Int).toNat (⟨(rd_T42 bt169.2.2.1 0).f0, bt199.1⟩ : S42)), bt199.2.1, bt199.2.2)) else (none))) else (if bt177.1 = 4 then (some (bt169.1, bt169.2.1, ([] : List (S42)), bt177.2.1, bt177.2.2)) else (if bt177.1 = 5 then (spec_l13DrawAny.l0 k s0_0 bt177.2.1 bt177.2.2 bt169.1 bt169.2.1 bt169.2.2.1) else (some (bt169.1, bt169.2.1, bt169.2.2.1, bt177.2.1, bt177.2.2)))))))))
def spec_l13DrawAny.T8 : Bool × List (List Nat × List Nat) := (true, [([], []), ([0], [0]), ([], []), ([], []), ([2, 3], [2, 3]), ([1, 0, 1, 2, 3, 4], [1]), ([5, 0, 1, 2, 3, 4], [5]), ([6, 4, 4, 0, 1, 2, 3, 4], [4, 6])])
def spec_l13DrawAny.B8 : List Nat := [0, 1, 0, 0, 12, 31, 63, 127]
theorem spec_l13DrawAny.tab8 : rtab .any (opsOf Try.f37 8) = spec_l13DrawAny.T8 := by kernel_rfl
theorem spec_l13DrawAny.bits8 : waitsOk spec_l13DrawAny.T8.2 spec_l13DrawAny.B8 = true := by kernel_rfl
def spec_l13DrawAny.T10 : Bool × List (List Nat × List Nat) := (true, [([], []), ([0], [0]), ([], []), ([], []), ([2, 3], [2, 3]), ([1, 0, 1, 2, 3, 4], [1]), ([5, 0, 1, 2, 3, 4], [5]), ([6, 4, 4, 0, 1, 2, 3, 4], [4, 6])])
def spec_l13DrawAny.B10 : List Nat := [0, 1, 0, 0, 12, 31, 63, 127]
theorem spec_l13DrawAny.tab10 : rtab .any (opsOf Try.f37 10) = spec_l13DrawAny.T10 := by kernel_rfl
theorem spec_l13DrawAny.bits10 : waitsOk spec_l13DrawAny.T10.2 spec_l13DrawAny.B10 = true := by kernel_rfl
set_option maxHeartbeats 8000000 in
set_option maxRecDepth 100000 in
theorem spec_l13DrawAny.calls (k : Nat) (g : Nat) (s0_0 : List Int) (s0_1 : Int) (s0_2 : Int) (r1 : Int) (r2 : Int) (r3 : List (S42)) (r4 : Int) (r5 : Int) (w0 w : World) (hI : IsS94 w0 w g s0_0 s0_1 s0_2) (hB : Below w0.heap.size w0 w) (h : spec_l13DrawAny.f k s0_0 s0_1 s0_2 = some (r1, r2, r3, r4, r5)) :
  Calls Try.prog 37 #[.pointer (some ⟨g, 0, none⟩)] w fun e w' => ∃ v2_ : Value, e = .returned (.agg #[.int .i64 r1, .int .i64 r2, v2_]) ∧ Kd.R k42 42 w' w.heap.size (fun _ => True) v2_ r3 ∧ IsS94 w0 w' g s0_0 r4 r5 ∧ Below w0.heap.size w0 w' ∧ KeepBut w w' g none := by
 have hu30 := Try.underlying30
 have hu42 := Try.underlying42
 have HI0 := Aside0.mk hI
 have HK := am_ (KeepBut.refl w g none)
 have HL := Aside0.mk hB.size
 clear hI
 have HW0 := Aside0.mk hB.size
 have HB := Aside0.mk hB
 clear hB
 have H : ((spec_l13DrawPlan.f k s0_0 s0_1 s0_2).bind fun bt169 => ((spec_l1Below.f s0_0 bt169.2.2.2.1 bt169.2.2.2.2 25).bind fun bt177 => (if bt177.1 = 0 then ((spec_l2DrawCount.f s0_0 bt177.2.1 bt177.2.2).bind fun bt180 => (some (bt180.1, bt169.2.1, bt169.2.2.1, bt180.2.1, bt180.2.2))) else (if bt177.1 = 1 then ((spec_l1PickInt.f s0_0 bt177.2.1 bt177.2.2 (([(-1), 100000, 100001] : List Int))).bind fun bt186 => (some (bt169.1, bt186.1, bt169.2.2.1, bt186.2.1, bt186.2.2))) else (if bt177.1 = 2 then ((spec_l1PickInt.f s0_0 bt177.2.1 bt177.2.2 (([(-1), 8, 7] : List Int))).bind fun bt192 => (if 0 < (bt169.2.2.1.length : Int) then (some (bt169.1, bt169.2.1, (bt169.2.2.1.set (0 : Int).toNat (⟨bt192.1, (rd_T42 bt169.2.2.1 0).f1⟩ : S42)), bt192.2.1, bt192.2.2)) else (none))) else (if bt177.1 = 3 then ((spec_l1PickInt.f s0_0 bt177.2.1 bt177.2.2 (([0, 1000000, 1000001] : List Int))).bind fun bt199 => (if 0 < (bt169.2.2.1.length : Int) then (some (bt169.1, bt169.2.1, (bt169.2.2.1.set (0 : Int).toNat (⟨(rd_T42 bt169.2.2.1 0).f0, bt199.1⟩ : S42)), bt199.2.1, bt199.2.2)) else (none))) else (if bt177.1 = 4 then (some (bt169.1, bt169.2.1, ([] : List (S42)), bt177.2.1, bt177.2.2)) else (if bt177.1 = 5 then (spec_l13DrawAny.l0 k s0_0 bt177.2.1 bt177.2.2 bt169.1 bt169.2.1 bt169.2.2.1) else (some (bt169.1, bt169.2.1, bt169.2.2.1, bt177.2.1, bt177.2.2)))))))))) = some (r1, r2, r3, r4, r5) := h
 clear h
 replace H := Option.bind_eq_some_iff.mp H
 obtain ⟨⟨t169, t170, t171, t174, t175⟩, A20, H⟩ := H
 replace H : ((spec_l1Below.f s0_0 t174 t175 25).bind fun bt177 => (if bt177.1 = 0 then ((spec_l2DrawCount.f s0_0 bt177.2.1 bt177.2.2).bind fun bt180 => (some (bt180.1, t170, t171, bt180.2.1, bt180.2.2))) else (if bt177.1 = 1 then ((spec_l1PickInt.f s0_0 bt177.2.1 bt177.2.2 (([(-1), 100000, 100001] : List Int))).bind fun bt186 => (some (t169, bt186.1, t171, bt186.2.1, bt186.2.2))) else (if bt177.1 = 2 then ((spec_l1PickInt.f s0_0 bt177.2.1 bt177.2.2 (([(-1), 8, 7] : List Int))).bind fun bt192 => (if 0 < (t171.length : Int) then (some (t169, t170, (t171.set (0 : Int).toNat (⟨bt192.1, (rd_T42 t171 0).f1⟩ : S42)), bt192.2.1, bt192.2.2)) else (none))) else (if bt177.1 = 3 then ((spec_l1PickInt.f s0_0 bt177.2.1 bt177.2.2 (([0, 1000000, 1000001] : List Int))).bind fun bt199 => (if 0 < (t171.length : Int) then (some (t169, t170, (t171.set (0 : Int).toNat (⟨(rd_T42 t171 0).f0, bt199.1⟩ : S42)), bt199.2.1, bt199.2.2)) else (none))) else (if bt177.1 = 4 then (some (t169, t170, ([] : List (S42)), bt177.2.1, bt177.2.2)) else (if bt177.1 = 5 then (spec_l13DrawAny.l0 k s0_0 bt177.2.1 bt177.2.2 t169 t170 t171) else (some (t169, t170, t171, bt177.2.1, bt177.2.2))))))))) = some (r1, r2, r3, r4, r5) := H
 have A2 := Aside0.mk A20
 clear A20
 replace H := Option.bind_eq_some_iff.mp H
 obtain ⟨⟨t177, t178, t179⟩, A30, H⟩ := H
 replace H : (if t177 = 0 then ((spec_l2DrawCount.f s0_0 t178 t179).bind fun bt180 => (some (bt180.1, t170, t171, bt180.2.1, bt180.2.2))) else (if t177 = 1 then ((spec_l1PickInt.f s0_0 t178 t179 (([(-1), 100000, 100001] : List Int))).bind fun bt186 => (some (t169, bt186.1, t171, bt186.2.1, bt186.2.2))) else (if t177 = 2 then ((spec_l1PickInt.f s0_0 t178 t179 (([(-1), 8, 7] : List Int))).bind fun bt192 => (if 0 < (t171.length : Int) then (some (t169, t170, (t171.set (0 : Int).toNat (⟨bt192.1, (rd_T42 t171 0).f1⟩ : S42)), bt192.2.1, bt192.2.2)) else (none))) else (if t177 = 3 then ((spec_l1PickInt.f s0_0 t178 t179 (([0, 1000000, 1000001] : List Int))).bind fun bt199 => (if 0 < (t171.length : Int) then (some (t169, t170, (t171.set (0 : Int).toNat (⟨(rd_T42 t171 0).f0, bt199.1⟩ : S42)), bt199.2.1, bt199.2.2)) else (none))) else (if t177 = 4 then (some (t169, t170, ([] : List (S42)), t178, t179)) else (if t177 = 5 then (spec_l13DrawAny.l0 k s0_0 t178 t179 t169 t170 t171) else (some (t169, t170, t171, t178, t179)))))))) = some (r1, r2, r3, r4, r5) := H
 have A3 := Aside0.mk A30
 clear A30
 by_cases c4 : t177 = 0
 ·rw [if_pos c4] at H
  have c4b0 : (t177 == 0) = true := beq_iff_eq.mpr c4
  have c4b1 : (t177 != 0) = false := bne_eq_false_iff_eq.mpr c4
  clear c4
  replace H := Option.bind_eq_some_iff.mp H
  obtain ⟨⟨t180, t181, t182⟩, A50, H⟩ := H
  replace H : (some (t180, t170, t171, t181, t182)) = some (r1, r2, r3, r4, r5) := H
  have A5 := Aside0.mk A50
  clear A50
  simp only [Option.some.injEq, Prod.mk.injEq] at H
  obtain ⟨rfl, rfl, rfl, rfl, rfl⟩ := H
  go_enter Try.func37, Try.ntmps37
  go_wp2_with (first | ((with_reducible refine gate_dst (N := 2) rfl ?_); refine be_ (N := 2) (cs := #[.int .i64 0, .int .i64 0, .slice none 0 0]) (t := 30) ?_; intro gb168 hg w6 hbox hb; have n0_ := am_ (IsS94.below (by repeat (first | (with_reducible first | exact HI0.out | apply IsS94.alloc | apply IsS94.drewN | apply IsS94.drew | apply IsS94.set_1 | apply IsS94.set_2) | exact HI0.out)) hb); have n1_ := am_ (KeepBut.trans (hk_ HK.out) (KeepBut.of_below hb g none) (.inl rfl)); have n2_ := am_ (below_step (hb1_ HB.out (IsS94.ge HI0.out)) hb); have n3_ := am_ (hbox); have n4_ := am_ ((by rw [hg]; exact (keep_size (w := w) (g := g) (row := none) (hk_ HK.out)) : w.heap.size ≤ gb168)); have n5_ := am_ ((Nat.le_trans HW0.out (by rw [hg]; exact (keep_size (w := w) (g := g) (row := none) (hk_ HK.out)) : w.heap.size ≤ gb168) : w0.heap.size ≤ gb168)); have n6_ := am_ ((by rw [hg]; exact Nat.ne_of_lt (IsS94.lt (show IsS94 w0 _ g s0_0 s0_1 s0_2 from by repeat (first | (with_reducible first | exact HI0.out | apply IsS94.alloc | apply IsS94.drewN | apply IsS94.drew | apply IsS94.set_1 | apply IsS94.set_2) | exact HI0.out))) : g ≠ gb168)); have n7_ := am_ ((by rw [hg]; exact Nat.ne_of_gt (IsS94.lt (show IsS94 w0 _ g s0_0 s0_1 s0_2 from by repeat (first | (with_reducible first | exact HI0.out | apply IsS94.alloc | apply IsS94.drewN | apply IsS94.drew | apply IsS94.set_1 | apply IsS94.set_2) | exact HI0.out))) : gb168 ≠ g)); clear HI0; clear HK; clear HB; have HI0 := n0_; have HK := n1_; have HB := n2_; have BK168 := n3_; have GW168 := n4_; have GE168 := n5_; have NB0_168 := n6_; have NB168_0 := n7_; clear n0_ n1_ n2_ n3_ n4_ n5_ n6_ n7_; clear hb hbox hg) | ((with_reducible refine gate_callee (f := 84) rfl ?_); refine gl_ Try.func84 #[.pointer (some ⟨g, 0, none⟩)] ?_; (with_reducible refine (spec_l13DrawPlan.calls k g s0_0 s0_1 s0_2 t169 t170 t171 t174 t175 w0 _ ?side1 ?side2 A2.out).mono ?_); (case side1 => repeat (first | (with_reducible first | exact HI0.out | apply IsS94.alloc | apply IsS94.drewN | apply IsS94.drew | apply IsS94.set_1 | apply IsS94.set_2 | refine IsS94.far ?_ NB0_168.out _) | exact HI0.out)); (case side2 => exact hb2_ HB.out (IsS94.ge HI0.out) GE168.out); rintro e w7 ⟨v172, rfl, ho0, hi, hb, hk⟩; refine ⟨_, rfl, ?_⟩; have HO173 := am_ (Kd.R_lower ho0 (keep_size (w := w) (g := g) (row := none) (hk1_ HK.out GW168.out))); replace BK168 := am_ (KeepBut.blk hk (g' := gb168) (o := .cells #[.int .i64 0, .int .i64 0, .slice none 0 0] 30 (0, 0)) (bk_ BK168.out) NB168_0.out (by simp)); replace HK := am_ (KeepBut.trans (hk1_ HK.out GW168.out) hk (.inl rfl)); replace HI0 := am_ (hi); replace HB := am_ (hb); (try clear hb); (try clear hb2); (try clear hk); (try clear hi); (try clear ho0)) | ((with_reducible refine gate_dst (N := 3) rfl ?_); refine be_ (N := 3) (cs := #[.int .i64 0, .int .i64 0, .slice none 0 0]) (t := 30) ?_; intro gb176 hg w8 hbox hb; have n0_ := am_ (Kd.R_below (by (with_reducible repeat (first | apply Kd.R_alloc | apply Kd.R_drewN | apply Kd.R_drew)); exact HO173.out) hb); have n1_ := am_ (IsS94.below (by repeat (first | (with_reducible first | exact HI0.out | apply IsS94.alloc | apply IsS94.drewN | apply IsS94.drew | apply IsS94.set_1 | apply IsS94.set_2 | refine IsS94.far ?_ NB0_168.out _) | exact HI0.out)) hb); have n2_ := am_ (bb_ BK168.out hb); have n3_ := am_ (KeepBut.trans (hk1_ HK.out GW168.out) (KeepBut.of_below hb g none) (.inl rfl)); have n4_ := am_ (below_step (hb2_ HB.out (IsS94.ge HI0.out) GE168.out) hb); have n5_ := am_ (hbox); have n6_ := am_ ((by rw [hg]; exact (keep_size (w := w) (g := g) (row := none) (hk1_ HK.out GW168.out)) : w.heap.size ≤ gb176)); have n7_ := am_ ((Nat.le_trans HW0.out (by rw [hg]; exact (keep_size (w := w) (g := g) (row := none) (hk1_ HK.out GW168.out)) : w.heap.size ≤ gb176) : w0.heap.size ≤ gb176)); have n8_ := am_ ((bl_ hg BK168.out : gb168 ≠ gb176)); have n9_ := am_ ((bg_ hg BK168.out : gb176 ≠ gb168)); have n10_ := am_ ((by rw [hg]; exact Nat.ne_of_lt (IsS94.lt (show IsS94 w0 _ g s0_0 t174 t175 from by repeat (first | (with_reducible first | exact HI0.out | apply IsS94.alloc | apply IsS94.drewN | apply IsS94.drew | apply IsS94.set_1 | apply IsS94.set_2 | refine IsS94.far ?_ NB0_168.out _) | exact HI0.out))) : g ≠ gb176)); have n11_ := am_ ((by rw [hg]; exact Nat.ne_of_gt (IsS94.lt (show IsS94 w0 _ g s0_0 t174 t175 from by repeat (first | (with_reducible first | exact HI0.out | apply IsS94.alloc | apply IsS94.drewN | apply IsS94.drew | apply IsS94.set_1 | apply IsS94.set_2 | refine IsS94.far ?_ NB0_168.out _) | exact HI0.out))) : gb176 ≠ g)); clear HO173; clear HI0; clear BK168; clear HK; clear HB; have HO173 := n0_; have HI0 := n1_; have BK168 := n2_; have HK := n3_; have HB := n4_; have BK176 := n5_; have GW176 := n6_; have GE176 := n7_; have NB168_176 := n8_; have NB176_168 := n9_; have NB0_176 := n10_; have NB176_0 := n11_; clear n0_ n1_ n2_ n3_ n4_ n5_ n6_ n7_ n8_ n9_ n10_ n11_; clear hb hbox hg; have hnb9 := NB176_168.out; have hnc9 := NB168_176.out; have hnb10 := NB176_0.out; have hnc10 := NB0_176.out; obtain ⟨hcz11_0, hcz11_1, hcz11_2, hfz11_0, hfz11_1, hfz11_2⟩ := bc3_ BK176.out; obtain ⟨Ao12, co12, eo12⟩ := Kd.R_slice HO173.out; subst eo12) | ((with_reducible refine gate_callee (f := 41) rfl ?_); refine gl_ Try.func41 #[.pointer (some ⟨g, 0, none⟩), .int .i64 25] ?_; (with_reducible refine (spec_l1Below.calls g s0_0 t174 t175 25 t177 t178 t179 w0 _ ?side1 ?side2 A3.out).mono ?_); (case side1 => repeat (first | (with_reducible first | exact HI0.out | apply IsS94.alloc | apply IsS94.drewN | apply IsS94.drew | apply IsS94.set_1 | apply IsS94.set_2 | refine IsS94.far ?_ NB0_168.out _ | refine IsS94.far ?_ NB0_176.out _) | exact HI0.out)); (case side2 => exact hb3_ HB.out (IsS94.ge HI0.out) GE168.out GE176.out); rintro e w13 ⟨rfl, hi, hb, hk⟩; refine ⟨_, rfl, ?_⟩; replace BK168 := am_ (KeepBut.blk hk (g' := gb168) (o := .cells #[.int .i64 0, .int .i64 0, .slice none 0 0] 30 (0, 0)) (by (with_reducible repeat (first | refine blk_drewN ?_ _ | refine blk_drew ?_ | refine blk_alloc ?_ _)); refine blk_far ?_ NB168_176.out _; (with_reducible repeat (first | refine blk_drewN ?_ _ | refine blk_drew ?_ | refine blk_alloc ?_ _)); refine blk_far ?_ NB168_176.out _; (with_reducible repeat (first | refine blk_drewN ?_ _ | refine blk_drew ?_ | refine blk_alloc ?_ _)); refine blk_far ?_ NB168_176.out _; (with_reducible repeat (first | refine blk_drewN ?_ _ | refine blk_drew ?_ | refine blk_alloc ?_ _)); exact BK168.out) NB168_0.out (by simp)); replace HO173 := am_ (Kd.R_mono (Kd.R_keep (IsS94.apart (show IsS94 w0 _ g s0_0 t174 t175 from by repeat (first | (with_reducible first | exact HI0.out | apply IsS94.alloc | apply IsS94.drewN | apply IsS94.drew | apply IsS94.set_1 | apply IsS94.set_2 | refine IsS94.far ?_ NB0_168.out _ | refine IsS94.far ?_ NB0_176.out _) | exact HI0.out)) (by (with_reducible repeat (first | apply Kd.R_alloc | apply Kd.R_drewN | apply Kd.R_drew)); exact (Kd.R_mono (Kd.R_far (p := ⟨gb176, 2, none⟩) (Kd.R_far (p := ⟨gb176, 1, none⟩) (Kd.R_far (p := ⟨gb176, 0, none⟩) (Kd.R_types HO173.out BK176.out (by decide)) (fun _ hk => hk.2) (.int .i64 t169)) (fun _ hk => hk.2) (.int .i64 t170)) (fun _ hk => hk.2) (.slice Ao12 t171.length co12)) (fun _ h_ => h_.1))) (by decide)) hk (fun _ h => h.2)) (fun _ h => h.1)); replace BK176 := am_ (KeepBut.blk hk (g' := gb176) (o := .cells #[.int .i64 t169, .int .i64 t170, .slice Ao12 t171.length co12] 30 (0, 0)) (by (with_reducible repeat (first | refine blk_drewN ?_ _ | refine blk_drew ?_ | refine blk_alloc ?_ _)); refine blk_put (cs := #[.int .i64 t169, .int .i64 t170, .slice none 0 0]) ?_ 2 _ rfl; (with_reducible repeat (first | refine blk_drewN ?_ _ | refine blk_drew ?_ | refine blk_alloc ?_ _)); refine blk_put (cs := #[.int .i64 t169, .int .i64 0, .slice none 0 0]) ?_ 1 _ rfl; (with_reducible repeat (first | refine blk_drewN ?_ _ | refine blk_drew ?_ | refine blk_alloc ?_ _)); refine blk_put (cs := #[.int .i64 0, .int .i64 0, .slice none 0 0]) ?_ 0 _ rfl; (with_reducible repeat (first | refine blk_drewN ?_ _ | refine blk_drew ?_ | refine blk_alloc ?_ _)); exact BK176.out) NB176_0.out (by simp)); replace HK := am_ (KeepBut.trans (hk2_ HK.out GW168.out GW176.out) hk (.inl rfl)); replace HI0 := am_ (hi); replace HB := am_ (hb); (try clear hb); (try clear hb2); (try clear hk); (try clear hi)) | ((with_reducible refine gate_callee (f := 85) rfl ?_); refine gl_ Try.func85 #[.pointer (some ⟨g, 0, none⟩)] ?_; (with_reducible refine (spec_l2DrawCount.calls g s0_0 t178 t179 t180 t181 t182 w0 _ ?side1 ?side2 A5.out).mono ?_); (case side1 => repeat (first | (with_reducible first | exact HI0.out | apply IsS94.alloc | apply IsS94.drewN | apply IsS94.drew | apply IsS94.set_1 | apply IsS94.set_2 | refine IsS94.far ?_ NB0_168.out _ | refine IsS94.far ?_ NB0_176.out _) | exact HI0.out)); (case side2 => exact hb3_ HB.out (IsS94.ge HI0.out) GE168.out GE176.out); rintro e w14 ⟨rfl, hi, hb, hk⟩; refine ⟨_, rfl, ?_⟩; replace BK168 := am_ (KeepBut.blk hk (g' := gb168) (o := .cells #[.int .i64 0, .int .i64 0, .slice none 0 0] 30 (0, 0)) (bk_ BK168.out) NB168_0.out (by simp)); replace HO173 := am_ (Kd.R_mono (Kd.R_keep (IsS94.apart (show IsS94 w0 _ g s0_0 t178 t179 from by repeat (first | (with_reducible first | exact HI0.out | apply IsS94.alloc | apply IsS94.drewN | apply IsS94.drew | apply IsS94.set_1 | apply IsS94.set_2 | refine IsS94.far ?_ NB0_168.out _ | refine IsS94.far ?_ NB0_176.out _) | exact HI0.out)) (by (with_reducible repeat (first | apply Kd.R_alloc | apply Kd.R_drewN | apply Kd.R_drew)); exact HO173.out) (by decide)) hk (fun _ h => h.2)) (fun _ h => h.1)); replace BK176 := am_ (KeepBut.blk hk (g' := gb176) (o := .cells #[.int .i64 t169, .int .i64 t170, .slice Ao12 t171.length co12] 30 (0, 0)) (bk_ BK176.out) NB176_0.out (by simp)); replace HK := am_ (KeepBut.trans (hk2_ HK.out GW168.out GW176.out) hk (.inl rfl)); replace HI0 := am_ (hi); replace HB := am_ (hb); (try clear hb); (try clear hb2); (try clear hk); (try clear hi); obtain ⟨hcz15_0, hcz15_1, hcz15_2, hfz15_0, hfz15_1, hfz15_2⟩ := bc3_ BK176.out; have hnb16 := NB168_0.out; have hnc16 := NB0_168.out; obtain ⟨hcz17_0, hcz17_1, hcz17_2, hfz17_0, hfz17_1, hfz17_2⟩ := bc3_ BK168.out))
  refine bodyPost_ret (results_cell_row rfl _ _ gb168 30 #[.int .i64 t180, .int .i64 t170, .slice Ao12 t171.length co12] (0, 0) _ rfl (by (with_reducible repeat (first | refine blk_drewN ?_ _ | refine blk_drew ?_ | refine blk_alloc ?_ _)); refine blk_put (cs := #[.int .i64 t180, .int .i64 t170, .slice none 0 0]) ?_ 2 _ rfl; (with_reducible repeat (first | refine blk_drewN ?_ _ | refine blk_drew ?_ | refine blk_alloc ?_ _)); refine blk_put (cs := #[.int .i64 t180, .int .i64 0, .slice none 0 0]) ?_ 1 _ rfl; (with_reducible repeat (first | refine blk_drewN ?_ _ | refine blk_drew ?_ | refine blk_alloc ?_ _)); refine blk_put (cs := #[.int .i64 0, .int .i64 0, .slice none 0 0]) ?_ 0 _ rfl; (with_reducible repeat (first | refine blk_drewN ?_ _ | refine blk_drew ?_ | refine blk_alloc ?_ _)); refine blk_far ?_ NB168_176.out _; (with_reducible repeat (first | refine blk_drewN ?_ _ | refine blk_drew ?_ | refine blk_alloc ?_ _)); exact BK168.out) Try.underlying30 rfl (by kernel_rfl)) rfl ?_
  exact ⟨_, er_, by (with_reducible repeat (first | apply Kd.R_alloc | apply Kd.R_drewN | apply Kd.R_drew)); exact Kd.R_mono (Kd.R_far (p := ⟨gb168, 2, none⟩) (Kd.R_far (p := ⟨gb168, 1, none⟩) (Kd.R_far (p := ⟨gb168, 0, none⟩) (Kd.R_far (p := ⟨gb176, 0, none⟩) (Kd.R_types (Kd.R_types HO173.out BK176.out (by decide)) BK168.out (by decide)) (fun _ hk => hk.1.2) (.int .i64 t180)) (fun _ hk => hk.2) (.int .i64 t180)) (fun _ hk => hk.2) (.int .i64 t170)) (fun _ hk => hk.2) (.slice Ao12 t171.length co12)) (fun _ hk => trivial), by repeat (first | (with_reducible first | exact HI0.out | apply IsS94.alloc | apply IsS94.drewN | apply IsS94.drew | apply IsS94.set_1 | apply IsS94.set_2 | refine IsS94.far ?_ NB0_168.out _ | refine IsS94.far ?_ NB0_176.out _) | exact HI0.out), hb3_ HB.out (IsS94.ge HI0.out) GE168.out GE176.out, hk2_ HK.out GW168.out GW176.out⟩
 ·rw [if_neg c4] at H
  have c4b0 : (t177 == 0) = false := beq_eq_false_iff_ne.mpr c4
  have c4b1 : (t177 != 0) = true := bne_iff_ne.mpr c4
  by_cases c18 : t177 = 1
  ·rw [if_pos c18] at H
   have c18b0 : (t177 == 1) = true := beq_iff_eq.mpr c18
   have c18b1 : (t177 != 1) = false := bne_eq_false_iff_eq.mpr c18
   clear c18
   obtain ⟨y183, hy183⟩ : ∃ y_ : List Int, y_ = (([(-1), 100000, 100001] : List Int)) := ⟨_, rfl⟩
   replace H : ((spec_l1PickInt.f s0_0 t178 t179 y183).bind fun bt186 => (some (t169, bt186.1, t171, bt186.2.1, bt186.2.2))) = some (r1, r2, r3, r4, r5) := by first | (rw [hy183]; with_reducible exact H) | (have H2_ := (Option.bind_some _ _).symm.trans H; rw [hy183]; with_reducible exact H2_) | (have H2_ := (Option.bind_some _ _).symm.trans H; with_reducible exact H2_) | with_reducible exact H | (rw [hy183]; exact H) | exact H
   have Ny183 := Aside0.mk hy183
   clear hy183
   replace H := Option.bind_eq_some_iff.mp H
   obtain ⟨⟨t186, t187, t188⟩, A190, H⟩ := H
   replace H : (some (t169, t186, t171, t187, t188)) = some (r1, r2, r3, r4, r5) := H
   have A19 := Aside0.mk A190
   clear A190
   simp only [Option.some.injEq, Prod.mk.injEq] at H
   obtain ⟨rfl, rfl, rfl, rfl, rfl⟩ := H
   go_enter Try.func37, Try.ntmps37
   go_wp2_with (first | ((with_reducible refine gate_dst (N := 2) rfl ?_); refine be_ (N := 2) (cs := #[.int .i64 0, .int .i64 0, .slice none 0 0]) (t := 30) ?_; intro gb168 hg w20 hbox hb; have n0_ := am_ (IsS94.below (by repeat (first | (with_reducible first | exact HI0.out | apply IsS94.alloc | apply IsS94.drewN | apply IsS94.drew | apply IsS94.set_1 | apply IsS94.set_2) | exact HI0.out)) hb); have n1_ := am_ (KeepBut.trans (hk_ HK.out) (KeepBut.of_below hb g none) (.inl rfl)); have n2_ := am_ (below_step (hb1_ HB.out (IsS94.ge HI0.out)) hb); have n3_ := am_ (hbox); have n4_ := am_ ((by rw [hg]; exact (keep_size (w := w) (g := g) (row := none) (hk_ HK.out)) : w.heap.size ≤ gb168)); have n5_ := am_ ((Nat.le_trans HW0.out (by rw [hg]; exact (keep_size (w := w) (g := g) (row := none) (hk_ HK.out)) : w.heap.size ≤ gb168) : w0.heap.size ≤ gb168)); have n6_ := am_ ((by rw [hg]; exact Nat.ne_of_lt (IsS94.lt (show IsS94 w0 _ g s0_0 s0_1 s0_2 from by repeat (first | (with_reducible first | exact HI0.out | apply IsS94.alloc | apply IsS94.drewN | apply IsS94.drew | apply IsS94.set_1 | apply IsS94.set_2) | exact HI0.out))) : g ≠ gb168)); have n7_ := am_ ((by rw [hg]; exact Nat.ne_of_gt (IsS94.lt (show IsS94 w0 _ g s0_0 s0_1 s0_2 from by repeat (first | (with_reducible first | exact HI0.out | apply IsS94.alloc | apply IsS94.drewN | apply IsS94.drew | apply IsS94.set_1 | apply IsS94.set_2) | exact HI0.out))) : gb168 ≠ g)); clear HI0; clear HK; clear HB; have HI0 := n0_; have HK := n1_; have HB := n2_; have BK168 := n3_; have GW168 := n4_; have GE168 := n5_; have NB0_168 := n6_; have NB168_0 := n7_; clear n0_ n1_ n2_ n3_ n4_ n5_ n6_ n7_; clear hb hbox hg) | ((with_reducible refine gate_callee (f := 84) rfl ?_); refine gl_ Try.func84 #[.pointer (some ⟨g, 0, none⟩)] ?_; (with_reducible refine (spec_l13DrawPlan.calls k g s0_0 s0_1 s0_2 t169 t170 t171 t174 t175 w0 _ ?side1 ?side2 A2.out).mono ?_); (case side1 => repeat (first | (with_reducible first | exact HI0.out | apply IsS94.alloc | apply IsS94.drewN | apply IsS94.drew | apply IsS94.set_1 | apply IsS94.set_2 | refine IsS94.far ?_ NB0_168.out _) | exact HI0.out)); (case side2 => exact hb2_ HB.out (IsS94.ge HI0.out) GE168.out); rintro e w21 ⟨v172, rfl, ho0, hi, hb, hk⟩; refine ⟨_, rfl, ?_⟩; have HO173 := am_ (Kd.R_lower ho0 (keep_size (w := w) (g := g) (row := none) (hk1_ HK.out GW168.out))); replace BK168 := am_ (KeepBut.blk hk (g' := gb168) (o := .cells #[.int .i64 0, .int .i64 0, .slice none 0 0] 30 (0, 0)) (bk_ BK168.out) NB168_0.out (by simp)); replace HK := am_ (KeepBut.trans (hk1_ HK.out GW168.out) hk (.inl rfl)); replace HI0 := am_ (hi); replace HB := am_ (hb); (try clear hb); (try clear hb2); (try clear hk); (try clear hi); (try clear ho0)) | ((with_reducible refine gate_dst (N := 3) rfl ?_); refine be_ (N := 3) (cs := #[.int .i64 0, .int .i64 0, .slice none 0 0]) (t := 30) ?_; intro gb176 hg w22 hbox hb; have n0_ := am_ (Kd.R_below (by (with_reducible repeat (first | apply Kd.R_alloc | apply Kd.R_drewN | apply Kd.R_drew)); exact HO173.out) hb); have n1_ := am_ (IsS94.below (by repeat (first | (with_reducible first | exact HI0.out | apply IsS94.alloc | apply IsS94.drewN | apply IsS94.drew | apply IsS94.set_1 | apply IsS94.set_2 | refine IsS94.far ?_ NB0_168.out _) | exact HI0.out)) hb); have n2_ := am_ (bb_ BK168.out hb); have n3_ := am_ (KeepBut.trans (hk1_ HK.out GW168.out) (KeepBut.of_below hb g none) (.inl rfl)); have n4_ := am_ (below_step (hb2_ HB.out (IsS94.ge HI0.out) GE168.out) hb); have n5_ := am_ (hbox); have n6_ := am_ ((by rw [hg]; exact (keep_size (w := w) (g := g) (row := none) (hk1_ HK.out GW168.out)) : w.heap.size ≤ gb176)); have n7_ := am_ ((Nat.le_trans HW0.out (by rw [hg]; exact (keep_size (w := w) (g := g) (row := none) (hk1_ HK.out GW168.out)) : w.heap.size ≤ gb176) : w0.heap.size ≤ gb176)); have n8_ := am_ ((bl_ hg BK168.out : gb168 ≠ gb176)); have n9_ := am_ ((bg_ hg BK168.out : gb176 ≠ gb168)); have n10_ := am_ ((by rw [hg]; exact Nat.ne_of_lt (IsS94.lt (show IsS94 w0 _ g s0_0 t174 t175 from by repeat (first | (with_reducible first | exact HI0.out | apply IsS94.alloc | apply IsS94.drewN | apply IsS94.drew | apply IsS94.set_1 | apply IsS94.set_2 | refine IsS94.far ?_ NB0_168.out _) | exact HI0.out))) : g ≠ gb176)); have n11_ := am_ ((by rw [hg]; exact Nat.ne_of_gt (IsS94.lt (show IsS94 w0 _ g s0_0 t174 t175 from by repeat (first | (with_reducible first | exact HI0.out | apply IsS94.alloc | apply IsS94.drewN | apply IsS94.drew | apply IsS94.set_1 | apply IsS94.set_2 | refine IsS94.far ?_ NB0_168.out _) | exact HI0.out))) : gb176 ≠ g)); clear HO173; clear HI0; clear BK168; clear HK; clear HB; have HO173 := n0_; have HI0 := n1_; have BK168 := n2_; have HK := n3_; have HB := n4_; have BK176 := n5_; have GW176 := n6_; have GE176 := n7_; have NB168_176 := n8_; have NB176_168 := n9_; have NB0_176 := n10_; have NB176_0 := n11_; clear n0_ n1_ n2_ n3_ n4_ n5_ n6_ n7_ n8_ n9_ n10_ n11_; clear hb hbox hg; have hnb23 := NB176_168.out; have hnc23 := NB168_176.out; have hnb24 := NB176_0.out; have hnc24 := NB0_176.out; obtain ⟨hcz25_0, hcz25_1, hcz25_2, hfz25_0, hfz25_1, hfz25_2⟩ := bc3_ BK176.out; obtain ⟨Ao26, co26, eo26⟩ := Kd.R_slice HO173.out; subst eo26) | ((with_reducible refine gate_callee (f := 41) rfl ?_); refine gl_ Try.func41 #[.pointer (some ⟨g, 0, none⟩), .int .i64 25] ?_; (with_reducible refine (spec_l1Below.calls g s0_0 t174 t175 25 t177 t178 t179 w0 _ ?side1 ?side2 A3.out).mono ?_); (case side1 => repeat (first | (with_reducible first | exact HI0.out | apply IsS94.alloc | apply IsS94.drewN | apply IsS94.drew | apply IsS94.set_1 | apply IsS94.set_2 | refine IsS94.far ?_ NB0_168.out _ | refine IsS94.far ?_ NB0_176.out _) | exact HI0.out)); (case side2 => exact hb3_ HB.out (IsS94.ge HI0.out) GE168.out GE176.out); rintro e w27 ⟨rfl, hi, hb, hk⟩; refine ⟨_, rfl, ?_⟩; replace BK168 := am_ (KeepBut.blk hk (g' := gb168) (o := .cells #[.int .i64 0, .int .i64 0, .slice none 0 0] 30 (0, 0)) (by (with_reducible repeat (first | refine blk_drewN ?_ _ | refine blk_drew ?_ | refine blk_alloc ?_ _)); refine blk_far ?_ NB168_176.out _; (with_reducible repeat (first | refine blk_drewN ?_ _ | refine blk_drew ?_ | refine blk_alloc ?_ _)); refine blk_far ?_ NB168_176.out _; (with_reducible repeat (first | refine blk_drewN ?_ _ | refine blk_drew ?_ | refine blk_alloc ?_ _)); refine blk_far ?_ NB168_176.out _; (with_reducible repeat (first | refine blk_drewN ?_ _ | refine blk_drew ?_ | refine blk_alloc ?_ _)); exact BK168.out) NB168_0.out (by simp)); replace HO173 := am_ (Kd.R_mono (Kd.R_keep (IsS94.apart (show IsS94 w0 _ g s0_0 t174 t175 from by repeat (first | (with_reducible first | exact HI0.out | apply IsS94.alloc | apply IsS94.drewN | apply IsS94.drew | apply IsS94.set_1 | apply IsS94.set_2 | refine IsS94.far ?_ NB0_168.out _ | refine IsS94.far ?_ NB0_176.out _) | exact HI0.out)) (by (with_reducible repeat (first | apply Kd.R_alloc | apply Kd.R_drewN | apply Kd.R_drew)); exact (Kd.R_mono (Kd.R_far (p := ⟨gb176, 2, none⟩) (Kd.R_far (p := ⟨gb176, 1, none⟩) (Kd.R_far (p := ⟨gb176, 0, none⟩) (Kd.R_types HO173.out BK176.out (by decide)) (fun _ hk => hk.2) (.int .i64 t169)) (fun _ hk => hk.2) (.int .i64 t170)) (fun _ hk => hk.2) (.slice Ao26 t171.length co26)) (fun _ h_ => h_.1))) (by decide)) hk (fun _ h => h.2)) (fun _ h => h.1)); replace BK176 := am_ (KeepBut.blk hk (g' := gb176) (o := .cells #[.int .i64 t169, .int .i64 t170, .slice Ao26 t171.length co26] 30 (0, 0)) (by (with_reducible repeat (first | refine blk_drewN ?_ _ | refine blk_drew ?_ | refine blk_alloc ?_ _)); refine blk_put (cs := #[.int .i64 t169, .int .i64 t170, .slice none 0 0]) ?_ 2 _ rfl; (with_reducible repeat (first | refine blk_drewN ?_ _ | refine blk_drew ?_ | refine blk_alloc ?_ _)); refine blk_put (cs := #[.int .i64 t169, .int .i64 0, .slice none 0 0]) ?_ 1 _ rfl; (with_reducible repeat (first | refine blk_drewN ?_ _ | refine blk_drew ?_ | refine blk_alloc ?_ _)); refine blk_put (cs := #[.int .i64 0, .int .i64 0, .slice none 0 0]) ?_ 0 _ rfl; (with_reducible repeat (first | refine blk_drewN ?_ _ | refine blk_drew ?_ | refine blk_alloc ?_ _)); exact BK176.out) NB176_0.out (by simp)); replace HK := am_ (KeepBut.trans (hk2_ HK.out GW168.out GW176.out) hk (.inl rfl)); replace HI0 := am_ (hi); replace HB := am_ (hb); (try clear hb); (try clear hb2); (try clear hk); (try clear hi)) | ((with_reducible refine gate_dst (N := 16) rfl ?_); refine Kd.R_lit (Kd.int .i64) _ 3 ?hg (N := 16) ?hd (xs := ([(-1), 100000, 100001] : List Int)) (inner := [.int .i64 (-1), .int .i64 100000, .int .i64 100001]) (ok := fun _ => True) (okp := fun _ => True) ?hr ?hp (fun _ hk => hk) trivial (Below.refl _ _) (Nat.le_refl _) (by simp) ?_; (case hd => rfl); (case hg => rfl); (case hr => first|(go_simp;done)|(go_simp;rfl)); (case hp => exact (Reps.one (show Kd.M (Kd.int .i64) _ _ _ (-1) [.int .i64 (-1)] from rfl) (Reps.one (show Kd.M (Kd.int .i64) _ _ _ 100000 [.int .i64 100000] from rfl) (Reps.one (show Kd.M (Kd.int .i64) _ _ _ 100001 [.int .i64 100001] from rfl) (Reps.none _ _))))); intro v184 w28 ho29 hb hg_ hnew_; clear hg_ hnew_; (first | rw [← Ny183.out] at ho29 | (simp only [Int.reduceToNat] at ho29; rw [← Ny183.out] at ho29)); have n0_ := am_ (Kd.R_below (by (with_reducible repeat (first | apply Kd.R_alloc | apply Kd.R_drewN | apply Kd.R_drew)); exact HO173.out) hb); have n1_ := am_ (Kd.R_lower ho29 (keep_size (w := w) (g := g) (row := none) (hk2_ HK.out GW168.out GW176.out))); have n2_ := am_ (IsS94.below (by repeat (first | (with_reducible first | exact HI0.out | apply IsS94.alloc | apply IsS94.drewN | apply IsS94.drew | apply IsS94.set_1 | apply IsS94.set_2 | refine IsS94.far ?_ NB0_168.out _ | refine IsS94.far ?_ NB0_176.out _) | exact HI0.out)) hb); have n3_ := am_ (bb_ BK168.out hb); have n4_ := am_ (bb_ BK176.out hb); have n5_ := am_ (KeepBut.trans (hk2_ HK.out GW168.out GW176.out) (KeepBut.of_below hb g none) (.inl rfl)); have n6_ := am_ (below_step (hb3_ HB.out (IsS94.ge HI0.out) GE168.out GE176.out) hb); clear HO173; clear HI0; clear BK168; clear BK176; clear HK; clear HB; have HO173 := n0_; have HO185 := n1_; have HI0 := n2_; have BK168 := n3_; have BK176 := n4_; have HK := n5_; have HB := n6_; clear n0_ n1_ n2_ n3_ n4_ n5_ n6_; clear hb ho29; obtain ⟨Ao30, co30, eo30⟩ := Kd.R_slice HO185.out; subst eo30) | ((with_reducible refine gate_callee (f := 44) rfl ?_); refine gl_ Try.func44 #[.pointer (some ⟨g, 0, none⟩), .slice Ao30 y183.length co30] ?_; (with_reducible refine (spec_l1PickInt.calls g s0_0 t178 t179 _ _ y183 t186 t187 t188 w0 _ ?side1 ?side2 ?side3 ?side4 ?side5 A19.out).mono ?_); (case side1 => repeat (first | (with_reducible first | exact HI0.out | apply IsS94.alloc | apply IsS94.drewN | apply IsS94.drew | apply IsS94.set_1 | apply IsS94.set_2 | refine IsS94.far ?_ NB0_168.out _ | refine IsS94.far ?_ NB0_176.out _) | exact HI0.out)); (case side2 => exact hb3_ HB.out (IsS94.ge HI0.out) GE168.out GE176.out); (case side3 => repeat (first | exact (Kd.R_reads' HO185.out).2.2 | (with_reducible refine Kd.C_alloc ?_ _) | (with_reducible refine Kd.C_drewN ?_ _) | (with_reducible refine Kd.C_drew ?_))); (case side4 => exact (Kd.R_reads' HO185.out).2.1); (case side5 => exact far_slice (IsS94.own_ne HI0.out HO185.out (by decide))); rintro e w31 ⟨rfl, hi, hb, hk⟩; refine ⟨_, rfl, ?_⟩; replace BK168 := am_ (KeepBut.blk hk (g' := gb168) (o := .cells #[.int .i64 0, .int .i64 0, .slice none 0 0] 30 (0, 0)) (bk_ BK168.out) NB168_0.out (by simp)); replace HO173 := am_ (Kd.R_mono (Kd.R_keep (IsS94.apart (show IsS94 w0 _ g s0_0 t178 t179 from by repeat (first | (with_reducible first | exact HI0.out | apply IsS94.alloc | apply IsS94.drewN | apply IsS94.drew | apply IsS94.set_1 | apply IsS94.set_2 | refine IsS94.far ?_ NB0_168.out _ | refine IsS94.far ?_ NB0_176.out _) | exact HI0.out)) (by (with_reducible repeat (first | apply Kd.R_alloc | apply Kd.R_drewN | apply Kd.R_drew)); exact HO173.out) (by decide)) hk (fun _ h => h.2)) (fun _ h => h.1)); replace BK176 := am_ (KeepBut.blk hk (g' := gb176) (o := .cells #[.int .i64 t169, .int .i64 t170, .slice Ao26 t171.length co26] 30 (0, 0)) (bk_ BK176.out) NB176_0.out (by simp)); replace HO185 := am_ (Kd.R_mono (Kd.R_keep (IsS94.apart (show IsS94 w0 _ g s0_0 t178 t179 from by repeat (first | (with_reducible first | exact HI0.out | apply IsS94.alloc | apply IsS94.drewN | apply IsS94.drew | apply IsS94.set_1 | apply IsS94.set_2 | refine IsS94.far ?_ NB0_168.out _ | refine IsS94.far ?_ NB0_176.out _) | exact HI0.out)) (by (with_reducible repeat (first | apply Kd.R_alloc | apply Kd.R_drewN | apply Kd.R_drew)); exact HO185.out) (by decide)) hk (fun _ h => h.2)) (fun _ h => h.1)); replace HK := am_ (KeepBut.trans (hk2_ HK.out GW168.out GW176.out) hk (.inl rfl)); replace HI0 := am_ (hi); replace HB := am_ (hb); (try clear hb); (try clear hb2); (try clear hk); (try clear hi); obtain ⟨hcz32_0, hcz32_1, hcz32_2, hfz32_0, hfz32_1, hfz32_2⟩ := bc3_ BK176.out; have hnb33 := NB168_0.out; have hnc33 := NB0_168.out; obtain ⟨hcz34_0, hcz34_1, hcz34_2, hfz34_0, hfz34_1, hfz34_2⟩ := bc3_ BK168.out))
   refine bodyPost_ret (results_cell_row rfl _ _ gb168 30 #[.int .i64 t169, .int .i64 t186, .slice Ao26 t171.length co26] (0, 0) _ rfl (by (with_reducible repeat (first | refine blk_drewN ?_ _ | refine blk_drew ?_ | refine blk_alloc ?_ _)); refine blk_put (cs := #[.int .i64 t169, .int .i64 t186, .slice none 0 0]) ?_ 2 _ rfl; (with_reducible repeat (first | refine blk_drewN ?_ _ | refine blk_drew ?_ | refine blk_alloc ?_ _)); refine blk_put (cs := #[.int .i64 t169, .int .i64 0, .slice none 0 0]) ?_ 1 _ rfl; (with_reducible repeat (first | refine blk_drewN ?_ _ | refine blk_drew ?_ | refine blk_alloc ?_ _)); refine blk_put (cs := #[.int .i64 0, .int .i64 0, .slice none 0 0]) ?_ 0 _ rfl; (with_reducible repeat (first | refine blk_drewN ?_ _ | refine blk_drew ?_ | refine blk_alloc ?_ _)); refine blk_far ?_ NB168_176.out _; (with_reducible repeat (first | refine blk_drewN ?_ _ | refine blk_drew ?_ | refine blk_alloc ?_ _)); exact BK168.out) Try.underlying30 rfl (by kernel_rfl)) rfl ?_
   exact ⟨_, er_, by (with_reducible repeat (first | apply Kd.R_alloc | apply Kd.R_drewN | apply Kd.R_drew)); exact Kd.R_mono (Kd.R_far (p := ⟨gb168, 2, none⟩) (Kd.R_far (p := ⟨gb168, 1, none⟩) (Kd.R_far (p := ⟨gb168, 0, none⟩) (Kd.R_far (p := ⟨gb176, 1, none⟩) (Kd.R_types (Kd.R_types HO173.out BK176.out (by decide)) BK168.out (by decide)) (fun _ hk => hk.1.2) (.int .i64 t186)) (fun _ hk => hk.2) (.int .i64 t169)) (fun _ hk => hk.2) (.int .i64 t186)) (fun _ hk => hk.2) (.slice Ao26 t171.length co26)) (fun _ hk => trivial), by repeat (first | (with_reducible first | exact HI0.out | apply IsS94.alloc | apply IsS94.drewN | apply IsS94.drew | apply IsS94.set_1 | apply IsS94.set_2 | refine IsS94.far ?_ NB0_168.out _ | refine IsS94.far ?_ NB0_176.out _) | exact HI0.out), hb3_ HB.out (IsS94.ge HI0.out) GE168.out GE176.out, hk2_ HK.out GW168.out GW176.out⟩
  ·rw [if_neg c18] at H
   have c18b0 : (t177 == 1) = false := beq_eq_false_iff_ne.mpr c18
   have c18b1 : (t177 != 1) = true := bne_iff_ne.mpr c18
   by_cases c35 : t177 = 2
   ·rw [if_pos c35] at H
    have c35b0 : (t177 == 2) = true := beq_iff_eq.mpr c35
    have c35b1 : (t177 != 2) = false := bne_eq_false_iff_eq.mpr c35
    clear c35
    obtain ⟨y189, hy189⟩ : ∃ y_ : List Int, y_ = (([(-1), 8, 7] : List Int)) := ⟨_, rfl⟩
    replace H : ((spec_l1PickInt.f s0_0 t178 t179 y189).bind fun bt192 => (if 0 < (t171.length : Int) then (some (t169, t170, (t171.set (0 : Int).toNat (⟨bt192.1, (rd_T42 t171 0).f1⟩ : S42)), bt192.2.1, bt192.2.2)) else (none))) = some (r1, r2, r3, r4, r5) := by first | (rw [hy189]; with_reducible exact H) | (have H2_ := (Option.bind_some _ _).symm.trans H; rw [hy189]; with_reducible exact H2_) | (have H2_ := (Option.bind_some _ _).symm.trans H; with_reducible exact H2_) | with_reducible exact H | (rw [hy189]; exact H) | exact H
    have Ny189 := Aside0.mk hy189
    clear hy189
    replace H := Option.bind_eq_some_iff.mp H
    obtain ⟨⟨t192, t193, t194⟩, A360, H⟩ := H
    replace H : (if 0 < (t171.length : Int) then (some (t169, t170, (t171.set (0 : Int).toNat (⟨t192, (rd_T42 t171 0).f1⟩ : S42)), t193, t194)) else (none)) = some (r1, r2, r3, r4, r5) := H
    have A36 := Aside0.mk A360
    clear A360
    by_cases c37 : 0 < (t171.length : Int)
    ·rw [if_pos c37] at H
     have c37b0 : decide (0 < (t171.length : Int)) = true := decide_eq_true c37
     have c37b1 : decide (0 < t171.length) = true := decide_eq_true (by omega)
     clear c37
     obtain ⟨y195, hy195⟩ : ∃ y_ : List (S42), y_ = (t171.set (0 : Int).toNat (⟨t192, (rd_T42 t171 0).f1⟩ : S42)) := ⟨_, rfl⟩
     replace H : (some (t169, t170, y195, t193, t194)) = some (r1, r2, r3, r4, r5) := by first | (rw [hy195]; with_reducible exact H) | (have H2_ := (Option.bind_some _ _).symm.trans H; rw [hy195]; with_reducible exact H2_) | (have H2_ := (Option.bind_some _ _).symm.trans H; with_reducible exact H2_) | with_reducible exact H | (rw [hy195]; exact H) | exact H
     have Ny195 := Aside0.mk hy195
     clear hy195
     simp only [Option.some.injEq, Prod.mk.injEq] at H
     obtain ⟨rfl, rfl, rfl, rfl, rfl⟩ := H
     go_enter Try.func37, Try.ntmps37
     try go_wp2_with (first | ((with_reducible refine gate_dst (N := 2) rfl ?_); refine be_ (N := 2) (cs := #[.int .i64 0, .int .i64 0, .slice none 0 0]) (t := 30) ?_; intro gb168 hg w39 hbox hb; have n0_ := am_ (IsS94.below (by repeat (first | (with_reducible first | exact HI0.out | apply IsS94.alloc | apply IsS94.drewN | apply IsS94.drew | apply IsS94.set_1 | apply IsS94.set_2) | exact HI0.out)) hb); have n1_ := am_ (KeepBut.trans (hk_ HK.out) (KeepBut.of_below hb g none) (.inl rfl)); have n2_ := am_ (below_step (hb1_ HB.out (IsS94.ge HI0.out)) hb); have n3_ := am_ (hbox); have n4_ := am_ ((by rw [hg]; exact (keep_size (w := w) (g := g) (row := none) (hk_ HK.out)) : w.heap.size ≤ gb168)); have n5_ := am_ ((Nat.le_trans HW0.out (by rw [hg]; exact (keep_size (w := w) (g := g) (row := none) (hk_ HK.out)) : w.heap.size ≤ gb168) : w0.heap.size ≤ gb168)); have n6_ := am_ ((by rw [hg]; exact Nat.ne_of_lt (IsS94.lt (show IsS94 w0 _ g s0_0 s0_1 s0_2 from by repeat (first | (with_reducible first | exact HI0.out | apply IsS94.alloc | apply IsS94.drewN | apply IsS94.drew | apply IsS94.set_1 | apply IsS94.set_2) | exact HI0.out))) : g ≠ gb168)); have n7_ := am_ ((by rw [hg]; exact Nat.ne_of_gt (IsS94.lt (show IsS94 w0 _ g s0_0 s0_1 s0_2 from by repeat (first | (with_reducible first | exact HI0.out | apply IsS94.alloc | apply IsS94.drewN | apply IsS94.drew | apply IsS94.set_1 | apply IsS94.set_2) | exact HI0.out))) : gb168 ≠ g)); clear HI0; clear HK; clear HB; have HI0 := n0_; have HK := n1_; have HB := n2_; have BK168 := n3_; have GW168 := n4_; have GE168 := n5_; have NB0_168 := n6_; have NB168_0 := n7_; clear n0_ n1_ n2_ n3_ n4_ n5_ n6_ n7_; clear hb hbox hg) | ((with_reducible refine gate_callee (f := 84) rfl ?_); refine gl_ Try.func84 #[.pointer (some ⟨g, 0, none⟩)] ?_; (with_reducible refine (spec_l13DrawPlan.calls k g s0_0 s0_1 s0_2 t169 t170 t171 t174 t175 w0 _ ?side1 ?side2 A2.out).mono ?_); (case side1 => repeat (first | (with_reducible first | exact HI0.out | apply IsS94.alloc | apply IsS94.drewN | apply IsS94.drew | apply IsS94.set_1 | apply IsS94.set_2 | refine IsS94.far ?_ NB0_168.out _) | exact HI0.out)); (case side2 => exact hb2_ HB.out (IsS94.ge HI0.out) GE168.out); rintro e w40 ⟨v172, rfl, ho0, hi, hb, hk⟩; refine ⟨_, rfl, ?_⟩; have HO173 := am_ (Kd.R_lower ho0 (keep_size (w := w) (g := g) (row := none) (hk1_ HK.out GW168.out))); replace BK168 := am_ (KeepBut.blk hk (g' := gb168) (o := .cells #[.int .i64 0, .int .i64 0, .slice none 0 0] 30 (0, 0)) (bk_ BK168.out) NB168_0.out (by simp)); replace HK := am_ (KeepBut.trans (hk1_ HK.out GW168.out) hk (.inl rfl)); replace HI0 := am_ (hi); replace HB := am_ (hb); (try clear hb); (try clear hb2); (try clear hk); (try clear hi); (try clear ho0)) | ((with_reducible refine gate_dst (N := 3) rfl ?_); refine be_ (N := 3) (cs := #[.int .i64 0, .int .i64 0, .slice none 0 0]) (t := 30) ?_; intro gb176 hg w41 hbox hb; have n0_ := am_ (Kd.R_below (by (with_reducible repeat (first | apply Kd.R_alloc | apply Kd.R_drewN | apply Kd.R_drew)); exact HO173.out) hb); have n1_ := am_ (IsS94.below (by repeat (first | (with_reducible first | exact HI0.out | apply IsS94.alloc | apply IsS94.drewN | apply IsS94.drew | apply IsS94.set_1 | apply IsS94.set_2 | refine IsS94.far ?_ NB0_168.out _) | exact HI0.out)) hb); have n2_ := am_ (bb_ BK168.out hb); have n3_ := am_ (KeepBut.trans (hk1_ HK.out GW168.out) (KeepBut.of_below hb g none) (.inl rfl)); have n4_ := am_ (below_step (hb2_ HB.out (IsS94.ge HI0.out) GE168.out) hb); have n5_ := am_ (hbox); have n6_ := am_ ((by rw [hg]; exact (keep_size (w := w) (g := g) (row := none) (hk1_ HK.out GW168.out)) : w.heap.size ≤ gb176)); have n7_ := am_ ((Nat.le_trans HW0.out (by rw [hg]; exact (keep_size (w := w) (g := g) (row := none) (hk1_ HK.out GW168.out)) : w.heap.size ≤ gb176) : w0.heap.size ≤ gb176)); have n8_ := am_ ((bl_ hg BK168.out : gb168 ≠ gb176)); have n9_ := am_ ((bg_ hg BK168.out : gb176 ≠ gb168)); have n10_ := am_ ((by rw [hg]; exact Nat.ne_of_lt (IsS94.lt (show IsS94 w0 _ g s0_0 t174 t175 from by repeat (first | (with_reducible first | exact HI0.out | apply IsS94.alloc | apply IsS94.drewN | apply IsS94.drew | apply IsS94.set_1 | apply IsS94.set_2 | refine IsS94.far ?_ NB0_168.out _) | exact HI0.out))) : g ≠ gb176)); have n11_ := am_ ((by rw [hg]; exact Nat.ne_of_gt (IsS94.lt (show IsS94 w0 _ g s0_0 t174 t175 from by repeat (first | (with_reducible first | exact HI0.out | apply IsS94.alloc | apply IsS94.drewN | apply IsS94.drew | apply IsS94.set_1 | apply IsS94.set_2 | refine IsS94.far ?_ NB0_168.out _) | exact HI0.out))) : gb176 ≠ g)); clear HO173; clear HI0; clear BK168; clear HK; clear HB; have HO173 := n0_; have HI0 := n1_; have BK168 := n2_; have HK := n3_; have HB := n4_; have BK176 := n5_; have GW176 := n6_; have GE176 := n7_; have NB168_176 := n8_; have NB176_168 := n9_; have NB0_176 := n10_; have NB176_0 := n11_; clear n0_ n1_ n2_ n3_ n4_ n5_ n6_ n7_ n8_ n9_ n10_ n11_; clear hb hbox hg; have hnb42 := NB176_168.out; have hnc42 := NB168_176.out; have hnb43 := NB176_0.out; have hnc43 := NB0_176.out; obtain ⟨hcz44_0, hcz44_1, hcz44_2, hfz44_0, hfz44_1, hfz44_2⟩ := bc3_ BK176.out; obtain ⟨Ao45, co45, eo45⟩ := Kd.R_slice HO173.out; subst eo45) | ((with_reducible refine gate_callee (f := 41) rfl ?_); refine gl_ Try.func41 #[.pointer (some ⟨g, 0, none⟩), .int .i64 25] ?_; (with_reducible refine (spec_l1Below.calls g s0_0 t174 t175 25 t177 t178 t179 w0 _ ?side1 ?side2 A3.out).mono ?_); (case side1 => repeat (first | (with_reducible first | exact HI0.out | apply IsS94.alloc | apply IsS94.drewN | apply IsS94.drew | apply IsS94.set_1 | apply IsS94.set_2 | refine IsS94.far ?_ NB0_168.out _ | refine IsS94.far ?_ NB0_176.out _) | exact HI0.out)); (case side2 => exact hb3_ HB.out (IsS94.ge HI0.out) GE168.out GE176.out); rintro e w46 ⟨rfl, hi, hb, hk⟩; refine ⟨_, rfl, ?_⟩; replace BK168 := am_ (KeepBut.blk hk (g' := gb168) (o := .cells #[.int .i64 0, .int .i64 0, .slice none 0 0] 30 (0, 0)) (by (with_reducible repeat (first | refine blk_drewN ?_ _ | refine blk_drew ?_ | refine blk_alloc ?_ _)); refine blk_far ?_ NB168_176.out _; (with_reducible repeat (first | refine blk_drewN ?_ _ | refine blk_drew ?_ | refine blk_alloc ?_ _)); refine blk_far ?_ NB168_176.out _; (with_reducible repeat (first | refine blk_drewN ?_ _ | refine blk_drew ?_ | refine blk_alloc ?_ _)); refine blk_far ?_ NB168_176.out _; (with_reducible repeat (first | refine blk_drewN ?_ _ | refine blk_drew ?_ | refine blk_alloc ?_ _)); exact BK168.out) NB168_0.out (by simp)); replace HO173 := am_ (Kd.R_mono (Kd.R_keep (IsS94.apart (show IsS94 w0 _ g s0_0 t174 t175 from by repeat (first | (with_reducible first | exact HI0.out | apply IsS94.alloc | apply IsS94.drewN | apply IsS94.drew | apply IsS94.set_1 | apply IsS94.set_2 | refine IsS94.far ?_ NB0_168.out _ | refine IsS94.far ?_ NB0_176.out _) | exact HI0.out)) (by (with_reducible repeat (first | apply Kd.R_alloc | apply Kd.R_drewN | apply Kd.R_drew)); exact (Kd.R_mono (Kd.R_far (p := ⟨gb176, 2, none⟩) (Kd.R_far (p := ⟨gb176, 1, none⟩) (Kd.R_far (p := ⟨gb176, 0, none⟩) (Kd.R_types HO173.out BK176.out (by decide)) (fun _ hk => hk.2) (.int .i64 t169)) (fun _ hk => hk.2) (.int .i64 t170)) (fun _ hk => hk.2) (.slice Ao45 t171.length co45)) (fun _ h_ => h_.1))) (by decide)) hk (fun _ h => h.2)) (fun _ h => h.1)); replace BK176 := am_ (KeepBut.blk hk (g' := gb176) (o := .cells #[.int .i64 t169, .int .i64 t170, .slice Ao45 t171.length co45] 30 (0, 0)) (by (with_reducible repeat (first | refine blk_drewN ?_ _ | refine blk_drew ?_ | refine blk_alloc ?_ _)); refine blk_put (cs := #[.int .i64 t169, .int .i64 t170, .slice none 0 0]) ?_ 2 _ rfl; (with_reducible repeat (first | refine blk_drewN ?_ _ | refine blk_drew ?_ | refine blk_alloc ?_ _)); refine blk_put (cs := #[.int .i64 t169, .int .i64 0, .slice none 0 0]) ?_ 1 _ rfl; (with_reducible repeat (first | refine blk_drewN ?_ _ | refine blk_drew ?_ | refine blk_alloc ?_ _)); refine blk_put (cs := #[.int .i64 0, .int .i64 0, .slice none 0 0]) ?_ 0 _ rfl; (with_reducible repeat (first | refine blk_drewN ?_ _ | refine blk_drew ?_ | refine blk_alloc ?_ _)); exact BK176.out) NB176_0.out (by simp)); replace HK := am_ (KeepBut.trans (hk2_ HK.out GW168.out GW176.out) hk (.inl rfl)); replace HI0 := am_ (hi); replace HB := am_ (hb); (try clear hb); (try clear hb2); (try clear hk); (try clear hi)))
     have n0_ := am_ (Kd.R_drew HO173.out)
     have n1_ := am_ (blk_drew BK168.out)
     have n2_ := am_ (blk_drew BK176.out)
     have n3_ := am_ (IsS94.drew HI0.out)
     have n4_ := am_ (keep_drew HK.out)
     have n5_ := am_ (below_drew1 HB.out)
     clear HO173
     clear BK168
     clear BK176
     clear HI0
     clear HK
     clear HB
     have HO173 := n0_
     have BK168 := n1_
     have BK176 := n2_
     have HI0 := n3_
     have HK := n4_
     have HB := n5_
     clear n0_ n1_ n2_ n3_ n4_ n5_
     refine start_ (n := 8) (S := fun w' => w'.cell? ⟨gb176, 0, none⟩ = some (.int .i64 t169) ∧ w'.cell? ⟨gb176, 1, none⟩ = some (.int .i64 t170) ∧ w'.cell? ⟨gb176, 2, none⟩ = some (.slice Ao45 t171.length co45)) (ds := [7]) #[false, false, false, false, false, false, false, false] (by kernel_rfl) rfl rfl ⟨(blk_cell BK176.out 0).trans rfl, (blk_cell BK176.out 1).trans rfl, (blk_cell BK176.out 2).trans rfl⟩ (fun hHeld => ?_); refine with_tabW spec_l13DrawAny.tab8 spec_l13DrawAny.bits8 (fun HT_ HW_ => ?_)
     generalize w46.drew = w47 at HO173 BK168 BK176 HI0 HK HB hHeld ⊢
     refine pure_ (i := 0) (N := some 21) (v := ?_) (a' := ?_) #[true, false, false, false, false, false, false, false] rfl rfl (any_of HT_.out (by kernel_rfl)) (fun _ _ _ h => h) (Or.inl ⟨by rfl, ?_⟩) ?_ ?_
     rotate_left
     ·intro w'
      go_simp
      with_reducible rfl
     rotate_left
     ·simp only [Act.put, List.setIfInBounds_toArray, List.set_cons_zero, List.set_cons_succ, i64_w, i32_w]
      rfl
     refine pure_ (i := 2) (N := some 23) (v := ?_) (a' := ?_) #[true, false, true, false, false, false, false, false] rfl rfl (any_of HT_.out (by kernel_rfl)) (fun _ _ _ h => h) (Or.inl ⟨by rfl, ?_⟩) ?_ ?_
     rotate_left
     ·intro w'
      go_simp
      with_reducible rfl
     rotate_left
     ·simp only [Act.put, List.setIfInBounds_toArray, List.set_cons_zero, List.set_cons_succ, i64_w, i32_w]
      rfl
     refine take_ (i := 1) (N := some 22) (v := ?_) (a' := ?_) #[true, true, true, false, false, false, false, false] rfl rfl (take_ofW HT_.out HW_.out (by kernel_rfl)) (fun _ _ _ h => h) (Or.inl ⟨by rfl, ?_⟩) hHeld ?_ ?_
     rotate_left
     ·rintro w' ⟨s0, s1, s2⟩
      go_simp
      with_reducible rfl
     rotate_left
     ·simp only [Act.put, List.setIfInBounds_toArray, List.set_cons_zero, List.set_cons_succ, i64_w, i32_w]
      rfl
     refine one_ (i := 3) (N := some 24) #[true, true, true, true, false, false, false, false] rfl rfl (one_of HT_.out (by kernel_rfl)) (by decide) (fun K hK => ?_)
     refine Kd.R_lit_step (Kd.int .i64) _ 3 ?hg (N := 24) ?hd (xs := ([(-1), 8, 7] : List Int)) (inner := [.int .i64 (-1), .int .i64 8, .int .i64 7]) (ok := fun _ => True) (okp := fun _ => True) ?hr ?hp (fun _ hk => hk) trivial (Below.refl _ _) (Nat.le_refl _) (by simp) ?_; (case hd => rfl); (case hg => rfl); (case hr => first|(go_simp;done)|(go_simp;rfl)); (case hp => exact (Reps.one (show Kd.M (Kd.int .i64) _ _ _ (-1) [.int .i64 (-1)] from rfl) (Reps.one (show Kd.M (Kd.int .i64) _ _ _ 8 [.int .i64 8] from rfl) (Reps.one (show Kd.M (Kd.int .i64) _ _ _ 7 [.int .i64 7] from rfl) (Reps.none _ _)))))
     intro v190 w48 ho49 hb hg_ hnew_
     clear hg_ hnew_
     (first | rw [← Ny189.out] at ho49 | (simp only [Int.reduceToNat] at ho49; rw [← Ny189.out] at ho49))
     have n0_ := am_ (Kd.R_below (by (with_reducible repeat (first | apply Kd.R_alloc | apply Kd.R_drewN | apply Kd.R_drew)); exact HO173.out) hb)
     have n1_ := am_ (Kd.R_lower ho49 (keep_size (w := w) (g := g) (row := none) (hk2_ HK.out GW168.out GW176.out)))
     have n2_ := am_ (IsS94.below (by repeat (first | (with_reducible first | exact HI0.out | apply IsS94.alloc | apply IsS94.drewN | apply IsS94.drew | apply IsS94.set_1 | apply IsS94.set_2 | refine IsS94.far ?_ NB0_168.out _ | refine IsS94.far ?_ NB0_176.out _) | exact HI0.out)) hb)
     have n3_ := am_ (bb_ BK168.out hb)
     have n4_ := am_ (bb_ BK176.out hb)
     have n5_ := am_ (KeepBut.trans (hk2_ HK.out GW168.out GW176.out) (KeepBut.of_below hb g none) (.inl rfl))
     have n6_ := am_ (below_step (hb3_ HB.out (IsS94.ge HI0.out) GE168.out GE176.out) hb)
     clear HO173
     clear HI0
     clear BK168
     clear BK176
     clear HK
     clear HB
     have HO173 := n0_
     have HO191 := n1_
     have HI0 := n2_
     have BK168 := n3_
     have BK176 := n4_
     have HK := n5_
     have HB := n6_
     clear n0_ n1_ n2_ n3_ n4_ n5_ n6_
     clear hb ho49
     obtain ⟨Ao50, co50, eo50⟩ := Kd.R_slice HO191.out
     (first | subst eo50 | (injection eo50 with f1_ f2_ f3_; have f4_ := f1_.symm; have f5_ := f3_.symm; clear f1_ f2_ f3_; subst f4_; subst f5_))
     refine hK.out _ _ ⟨(blk_cell BK176.out 0).trans rfl, (blk_cell BK176.out 1).trans rfl, (blk_cell BK176.out 2).trans rfl⟩ (fun hHeld => ?_)
     clear hK K
     refine norm_ (a' := ?_) ?_ ?_
     rotate_left
     ·show Act.put _ (some 24) _ = _
      simp only [Act.put, List.setIfInBounds_toArray, List.set_cons_zero, List.set_cons_succ, i64_w, i32_w]
      rfl
     refine one_ (i := 4) (N := some 25) #[true, true, true, true, true, false, false, false] rfl rfl (one_of HT_.out (by kernel_rfl)) (by decide) (fun K hK => ?_)
     refine goes_ Try.func44 (by kernel_rfl) rfl #[.pointer (some ⟨g, 0, none⟩), .slice Ao50 y189.length co50] (by rfl) rfl rfl arr_ ?_
     with_reducible refine (spec_l1PickInt.calls g s0_0 t178 t179 _ _ y189 t192 t193 t194 w0 _ ?side1 ?side2 ?side3 ?side4 ?side5 A36.out).mono ?_
     (case side1 => repeat (first | (with_reducible first | exact HI0.out | apply IsS94.alloc | apply IsS94.drewN | apply IsS94.drew | apply IsS94.set_1 | apply IsS94.set_2 | refine IsS94.far ?_ NB0_168.out _ | refine IsS94.far ?_ NB0_176.out _) | exact HI0.out))
     (case side2 => exact hb3_ HB.out (IsS94.ge HI0.out) GE168.out GE176.out)
     (case side3 => repeat (first | exact (Kd.R_reads' HO191.out).2.2 | (with_reducible refine Kd.C_alloc ?_ _) | (with_reducible refine Kd.C_drewN ?_ _) | (with_reducible refine Kd.C_drew ?_)))
     (case side4 => exact (Kd.R_reads' HO191.out).2.1)
     (case side5 => exact far_slice (IsS94.own_ne HI0.out HO191.out (by decide)))
     rintro e w51 ⟨rfl, hi, hb, hk⟩
     refine ⟨_, rfl, ?_⟩
     have n0_ := am_ (KeepBut.blk hk (g' := gb168) (o := .cells #[.int .i64 0, .int .i64 0, .slice none 0 0] 30 (0, 0)) (bk_ BK168.out) NB168_0.out (by simp))
     have n1_ := am_ (Kd.R_mono (Kd.R_keep (IsS94.apart (show IsS94 w0 _ g s0_0 t178 t179 from by repeat (first | (with_reducible first | exact HI0.out | apply IsS94.alloc | apply IsS94.drewN | apply IsS94.drew | apply IsS94.set_1 | apply IsS94.set_2 | refine IsS94.far ?_ NB0_168.out _ | refine IsS94.far ?_ NB0_176.out _) | exact HI0.out)) (by (with_reducible repeat (first | apply Kd.R_alloc | apply Kd.R_drewN | apply Kd.R_drew)); exact HO173.out) (by decide)) hk (fun _ h => h.2)) (fun _ h => h.1))
     have n2_ := am_ (KeepBut.blk hk (g' := gb176) (o := .cells #[.int .i64 t169, .int .i64 t170, .slice Ao45 t171.length co45] 30 (0, 0)) (bk_ BK176.out) NB176_0.out (by simp))
     have n3_ := am_ (Kd.R_mono (Kd.R_keep (IsS94.apart (show IsS94 w0 _ g s0_0 t178 t179 from by repeat (first | (with_reducible first | exact HI0.out | apply IsS94.alloc | apply IsS94.drewN | apply IsS94.drew | apply IsS94.set_1 | apply IsS94.set_2 | refine IsS94.far ?_ NB0_168.out _ | refine IsS94.far ?_ NB0_176.out _) | exact HI0.out)) (by (with_reducible repeat (first | apply Kd.R_alloc | apply Kd.R_drewN | apply Kd.R_drew)); exact HO191.out) (by decide)) hk (fun _ h => h.2)) (fun _ h => h.1))
     have n4_ := am_ (KeepBut.trans (hk2_ HK.out GW168.out GW176.out) hk (.inl rfl))
     have n5_ := am_ (hb)
     have n6_ := am_ (hi)
     clear BK168
     clear HO173
     clear BK176
     clear HO191
     clear HK
     clear HB
     clear HI0
     have BK168 := n0_
     have HO173 := n1_
     have BK176 := n2_
     have HO191 := n3_
     have HK := n4_
     have HB := n5_
     have HI0 := n6_
     clear n0_ n1_ n2_ n3_ n4_ n5_ n6_
     (try clear hb)
     (try clear hb2)
     (try clear hk)
     (try clear hi)
     have p38 : 0 ≤ (0 : Int) := (by omega)
     have q38 : (0 : Int) < ((t171.length : Int) : Int) := of_decide_eq_true (by first | (with_reducible assumption) | assumption)
     have qi38 : (0 < t171.length) = True := eq_true (by omega)
     obtain ⟨go38, co38, eo38, gb38, gl38, cl38, HG38⟩ := Kd.R_form HO173.out (by omega)
     (first | cases eo38 | (injection eo38 with ea_ en_ ec_; (first | subst ea_ | (injection ea_ with ea_; subst ea_)); subst ec_; clear en_))
     have GB38 := Aside0.mk gb38
     have GG38 := Aside0.mk HG38
     clear gb38 gl38 HG38
     obtain ⟨ce38, hcl38, hM38, hcc38, hfr38⟩ := Kd.R_elem HO173.out z42 (0 : Int) p38 q38
     obtain rfl := k42_openM hM38
     have hx38_0 : World.cell? _ ⟨go38, (0 : Int).toNat * 2, none⟩ = some (.int .i64 ((rd_T42 t171 0).f0)) := hcc38 0 _ rfl
     have hx38_1 : World.cell? _ ⟨go38, (0 : Int).toNat * 2 + 1, none⟩ = some (.int .i64 ((rd_T42 t171 0).f1)) := hcc38 1 _ rfl
     have hf38_0 : World.frozen? _ ⟨go38, (0 : Int).toNat * 2, none⟩ = false := hfr38 0
     have hf38_1 : World.frozen? _ ⟨go38, (0 : Int).toNat * 2 + 1, none⟩ = false := hfr38 1
     clear hcl38 hcc38 hfr38 hM38
     (try rw [show ((0 : Int)).toNat = 0 from rfl] at hx38_0)
     (try simp only [Nat.reduceMul, Nat.zero_mul, Nat.zero_add, Nat.reduceAdd] at hx38_0)
     (try rw [show ((0 : Int)).toNat = 0 from rfl] at hf38_0)
     (try simp only [Nat.reduceMul, Nat.zero_mul, Nat.zero_add, Nat.reduceAdd] at hf38_0)
     (try rw [show ((0 : Int)).toNat = 0 from rfl] at hx38_1)
     (try simp only [Nat.reduceMul, Nat.zero_mul, Nat.zero_add, Nat.reduceAdd] at hx38_1)
     (try rw [show ((0 : Int)).toNat = 0 from rfl] at hf38_1)
     (try simp only [Nat.reduceMul, Nat.zero_mul, Nat.zero_add, Nat.reduceAdd] at hf38_1)
     replace p38 := eq_true p38
     replace q38 := eq_true q38
     have HN0_go38 := am_ (show g ≠ go38 from by have h_ := IsS94.own_ne HI0.out HO173.out (by decide); intro e_; exact h_ (by rw [e_]; rfl))
     obtain ⟨ce52, hcl52, hM52, hcc52, hfr52⟩ := Kd.R_elem HO173.out z42 (0 : Int) (by omega) (by have h_ : (0 : Int) < ((t171.length : Int) : Int) := of_decide_eq_true (by first | (with_reducible assumption) | assumption); first | exact h_ | (have e_ := (Kd.R_reads' HO173.out).1; omega) | simpa using h_)
     obtain rfl := k42_openM hM52
     have HP52 := (Kd.R_seg HO173.out (0 : Int) (by omega) (by have h_ : (0 : Int) < ((t171.length : Int) : Int) := of_decide_eq_true (by first | (with_reducible assumption) | assumption); first | exact h_ | (have e_ := (Kd.R_reads' HO173.out).1; omega) | simpa using h_) (seg := [.int .i64 t192]) (j := 0) hcl52 hcc52 (show 1 ≤ 2 from by decide) (x' := (⟨t192, (rd_T42 t171 0).f1⟩ : S42)) (k42_mkM _ _ _ (⟨t192, (rd_T42 t171 0).f1⟩ : S42) ) (fun _ hk => hk)).1
     rw [← Ny195.out] at HP52
     have HQ52 := Aside0.mk HP52
     clear hcl52 hcc52 hfr52 hM52 HP52
     refine hK.out _ _ ⟨(blk_cell BK176.out 0).trans rfl, (blk_cell BK176.out 1).trans rfl, (blk_cell BK176.out 2).trans rfl⟩ (fun hHeld => ?_)
     clear hK K
     refine norm_ (a' := ?_) ?_ ?_
     rotate_left
     ·show Act.put _ (some 25) _ = _
      simp only [Act.put, List.setIfInBounds_toArray, List.set_cons_zero, List.set_cons_succ, i64_w, i32_w]
      rfl
     refine pure_ (i := 5) (N := some 26) (v := ?_) (a' := ?_) #[true, true, true, true, true, true, false, false] rfl rfl (any_of HT_.out (by kernel_rfl)) (fun _ _ _ h => h) (Or.inl ⟨by rfl, ?_⟩) ?_ ?_
     rotate_left
     ·intro w'
      go_simp
      with_reducible rfl
     rotate_left
     ·simp only [Act.put, List.setIfInBounds_toArray, List.set_cons_zero, List.set_cons_succ, i64_w, i32_w]
      rfl
     refine pure_ (i := 6) (N := some 27) (v := ?_) (a' := ?_) #[true, true, true, true, true, true, true, false] rfl rfl (any_of HT_.out (by kernel_rfl)) (fun _ _ _ h => h) (Or.inl ⟨by rfl, ?_⟩) ?_ ?_
     rotate_left
     ·intro w'
      go_simp
      with_reducible rfl
     rotate_left
     ·simp only [Act.put, List.setIfInBounds_toArray, List.set_cons_zero, List.set_cons_succ, i64_w, i32_w]
      rfl
     refine last_ (i := 7) (N := none) #[true, true, true, true, true, true, true, true] rfl rfl (one_of HT_.out (by kernel_rfl)) (by decide) (fun K hK => ?_)
     refine skip_ (w1 := ?_) (by rfl) rfl ?_ ?_
     rotate_left
     ·go_simp
      rfl
     refine hK.out _ _ ?_
     clear hK K
     refine done_ (done_of HT_.out (by kernel_rfl)) ?_
     have n0_ : Aside0 (Kd.R k42 42 (w51.setCell ⟨go38, 0, none⟩ (.int .i64 t192)) w.heap.size (fun _ => True) (.slice (some ⟨go38, 0, none⟩) t171.length co45) y195) := ⟨by (with_reducible repeat (first | apply Kd.R_alloc | apply Kd.R_drewN | apply Kd.R_drew)); exact HQ52.out⟩
     have n1_ : Aside0 (Kd.R (Kd.int .i64) 3 (w51.setCell ⟨go38, 0, none⟩ (.int .i64 t192)) w.heap.size (fun _ => True) (.slice Ao50 y189.length co50) y189) := ⟨by (with_reducible repeat (first | apply Kd.R_alloc | apply Kd.R_drewN | apply Kd.R_drew)); exact Kd.R_mono (Kd.R_far (p := ⟨go38, 0, none⟩) (Kd.R_types HO191.out GG38.out (by decide)) (fun _ hk => hk.2) (.int .i64 t192)) (fun _ hk => trivial)⟩
     have n2_ : Aside0 ((w51.setCell ⟨go38, 0, none⟩ (.int .i64 t192)).heap[gb168]? = some (.cells #[.int .i64 0, .int .i64 0, .slice none 0 0] 30 (0, 0))) := ⟨by (with_reducible repeat (first | refine blk_drewN ?_ _ | refine blk_drew ?_ | refine blk_alloc ?_ _)); refine blk_far ?_ (by have h_ := Kd.R_ne HO173.out BK168.out (by decide); intro e_; exact h_ (by rw [e_]; rfl)) _; (with_reducible repeat (first | refine blk_drewN ?_ _ | refine blk_drew ?_ | refine blk_alloc ?_ _)); exact BK168.out⟩
     have n3_ : Aside0 ((w51.setCell ⟨go38, 0, none⟩ (.int .i64 t192)).heap[gb176]? = some (.cells #[.int .i64 t169, .int .i64 t170, .slice (some ⟨go38, 0, none⟩) t171.length co45] 30 (0, 0))) := ⟨by (with_reducible repeat (first | refine blk_drewN ?_ _ | refine blk_drew ?_ | refine blk_alloc ?_ _)); refine blk_far ?_ (by have h_ := Kd.R_ne HO173.out BK176.out (by decide); intro e_; exact h_ (by rw [e_]; rfl)) _; (with_reducible repeat (first | refine blk_drewN ?_ _ | refine blk_drew ?_ | refine blk_alloc ?_ _)); exact BK176.out⟩
     have n4_ : Aside0 (IsS94 w0 (w51.setCell ⟨go38, 0, none⟩ (.int .i64 t192)) g s0_0 t193 t194) := ⟨by repeat (first | (with_reducible first | exact HI0.out | apply IsS94.alloc | apply IsS94.drewN | apply IsS94.drew | apply IsS94.set_1 | apply IsS94.set_2 | refine IsS94.far ?_ HN0_go38.out _ | refine IsS94.far ?_ NB0_168.out _ | refine IsS94.far ?_ NB0_176.out _) | exact HI0.out)⟩
     have n5_ : Aside0 (KeepBut w (w51.setCell ⟨go38, 0, none⟩ (.int .i64 t192)) g none) := ⟨hk3_ HK.out GB38.out GW168.out GW176.out⟩
     have n6_ : Aside0 (Below w0.heap.size w0 (w51.setCell ⟨go38, 0, none⟩ (.int .i64 t192))) := ⟨hb4_ HB.out (Nat.le_trans HL.out GB38.out) (IsS94.ge HI0.out) GE168.out GE176.out⟩
     (try clear HO173)
     (try clear HO191)
     (try clear BK168)
     (try clear BK176)
     (try clear HI0)
     (try clear HK)
     (try clear HB)
     generalize (w51.setCell ⟨go38, 0, none⟩ (.int .i64 t192)) = w53 at n0_ n1_ n2_ n3_ n4_ n5_ n6_ ⊢
     have HO173 := n0_
     have HO191 := n1_
     have BK168 := n2_
     have BK176 := n3_
     have HI0 := n4_
     have HK := n5_
     have HB := n6_
     clear n0_ n1_ n2_ n3_ n4_ n5_ n6_
     have hcz54_0 := bc_ BK176.out 0 (.int .i64 t169) rfl
     have hcz54_1 := bc_ BK176.out 1 (.int .i64 t170) rfl
     have hcz54_2 : w53.cell? ⟨gb176, 2, none⟩ = some (.slice (some ⟨go38, 0, none⟩) t171.length co45) := (blk_cell BK176.out 2).trans rfl
     have hfz54_0 := blk_frozen BK176.out 0
     have hfz54_1 := blk_frozen BK176.out 1
     have hfz54_2 := blk_frozen BK176.out 2
     have hnb55 := NB168_0.out
     have hnc55 := NB0_168.out
     have hcz56_0 := bc_ BK168.out 0 (.int .i64 0) rfl
     have hcz56_1 := bc_ BK168.out 1 (.int .i64 0) rfl
     have hcz56_2 := bc_ BK168.out 2 (.slice none 0 0) rfl
     have hfz56_0 := blk_frozen BK168.out 0
     have hfz56_1 := blk_frozen BK168.out 1
     have hfz56_2 := blk_frozen BK168.out 2
     try go_wp2
     refine bodyPost_ret (results_cell_row rfl _ _ gb168 30 #[.int .i64 t169, .int .i64 t170, .slice (some ⟨go38, 0, none⟩) t171.length co45] (0, 0) _ rfl (by (with_reducible repeat (first | refine blk_drewN ?_ _ | refine blk_drew ?_ | refine blk_alloc ?_ _)); refine blk_put (cs := #[.int .i64 t169, .int .i64 t170, .slice none 0 0]) ?_ 2 _ rfl; (with_reducible repeat (first | refine blk_drewN ?_ _ | refine blk_drew ?_ | refine blk_alloc ?_ _)); refine blk_put (cs := #[.int .i64 t169, .int .i64 0, .slice none 0 0]) ?_ 1 _ rfl; (with_reducible repeat (first | refine blk_drewN ?_ _ | refine blk_drew ?_ | refine blk_alloc ?_ _)); refine blk_put (cs := #[.int .i64 0, .int .i64 0, .slice none 0 0]) ?_ 0 _ rfl; (with_reducible repeat (first | refine blk_drewN ?_ _ | refine blk_drew ?_ | refine blk_alloc ?_ _)); exact BK168.out) Try.underlying30 rfl (by kernel_rfl)) rfl ?_
     exact ⟨_, er_, by (with_reducible repeat (first | apply Kd.R_alloc | apply Kd.R_drewN | apply Kd.R_drew)); exact Kd.R_mono (Kd.R_far (p := ⟨gb168, 2, none⟩) (Kd.R_far (p := ⟨gb168, 1, none⟩) (Kd.R_far (p := ⟨gb168, 0, none⟩) (Kd.R_types HO173.out BK168.out (by decide)) (fun _ hk => hk.2) (.int .i64 t169)) (fun _ hk => hk.2) (.int .i64 t170)) (fun _ hk => hk.2) (.slice (some ⟨go38, 0, none⟩) t171.length co45)) (fun _ hk => trivial), by repeat (first | (with_reducible first | exact HI0.out | apply IsS94.alloc | apply IsS94.drewN | apply IsS94.drew | apply IsS94.set_1 | apply IsS94.set_2 | refine IsS94.far ?_ NB0_168.out _ | refine IsS94.far ?_ NB0_176.out _) | exact HI0.out), hb3_ HB.out (IsS94.ge HI0.out) GE168.out GE176.out, hk2_ HK.out GW168.out GW176.out⟩
    ·rw [if_neg c37] at H
     exact absurd H (by simp)
   ·rw [if_neg c35] at H
    have c35b0 : (t177 == 2) = false := beq_eq_false_iff_ne.mpr c35
    have c35b1 : (t177 != 2) = true := bne_iff_ne.mpr c35
    by_cases c57 : t177 = 3
    ·rw [if_pos c57] at H
     have c57b0 : (t177 == 3) = true := beq_iff_eq.mpr c57
     have c57b1 : (t177 != 3) = false := bne_eq_false_iff_eq.mpr c57
     clear c57
     obtain ⟨y196, hy196⟩ : ∃ y_ : List Int, y_ = (([0, 1000000, 1000001] : List Int)) := ⟨_, rfl⟩
     replace H : ((spec_l1PickInt.f s0_0 t178 t179 y196).bind fun bt199 => (if 0 < (t171.length : Int) then (some (t169, t170, (t171.set (0 : Int).toNat (⟨(rd_T42 t171 0).f0, bt199.1⟩ : S42)), bt199.2.1, bt199.2.2)) else (none))) = some (r1, r2, r3, r4, r5) := by first | (rw [hy196]; with_reducible exact H) | (have H2_ := (Option.bind_some _ _).symm.trans H; rw [hy196]; with_reducible exact H2_) | (have H2_ := (Option.bind_some _ _).symm.trans H; with_reducible exact H2_) | with_reducible exact H | (rw [hy196]; exact H) | exact H
     have Ny196 := Aside0.mk hy196
     clear hy196
     replace H := Option.bind_eq_some_iff.mp H
     obtain ⟨⟨t199, t200, t201⟩, A580, H⟩ := H
     replace H : (if 0 < (t171.length : Int) then (some (t169, t170, (t171.set (0 : Int).toNat (⟨(rd_T42 t171 0).f0, t199⟩ : S42)), t200, t201)) else (none)) = some (r1, r2, r3, r4, r5) := H
     have A58 := Aside0.mk A580
     clear A580
     by_cases c59 : 0 < (t171.length : Int)
     ·rw [if_pos c59] at H
      have c59b0 : decide (0 < (t171.length : Int)) = true := decide_eq_true c59
      have c59b1 : decide (0 < t171.length) = true := decide_eq_true (by omega)
      clear c59
      obtain ⟨y202, hy202⟩ : ∃ y_ : List (S42), y_ = (t171.set (0 : Int).toNat (⟨(rd_T42 t171 0).f0, t199⟩ : S42)) := ⟨_, rfl⟩
      replace H : (some (t169, t170, y202, t200, t201)) = some (r1, r2, r3, r4, r5) := by first | (rw [hy202]; with_reducible exact H) | (have H2_ := (Option.bind_some _ _).symm.trans H; rw [hy202]; with_reducible exact H2_) | (have H2_ := (Option.bind_some _ _).symm.trans H; with_reducible exact H2_) | with_reducible exact H | (rw [hy202]; exact H) | exact H
      have Ny202 := Aside0.mk hy202
      clear hy202
      simp only [Option.some.injEq, Prod.mk.injEq] at H
      obtain ⟨rfl, rfl, rfl, rfl, rfl⟩ := H
      go_enter Try.func37, Try.ntmps37
      try go_wp2_with (first | ((with_reducible refine gate_dst (N := 2) rfl ?_); refine be_ (N := 2) (cs := #[.int .i64 0, .int .i64 0, .slice none 0 0]) (t := 30) ?_; intro gb168 hg w61 hbox hb; have n0_ := am_ (IsS94.below (by repeat (first | (with_reducible first | exact HI0.out | apply IsS94.alloc | apply IsS94.drewN | apply IsS94.drew | apply IsS94.set_1 | apply IsS94.set_2) | exact HI0.out)) hb); have n1_ := am_ (KeepBut.trans (hk_ HK.out) (KeepBut.of_below hb g none) (.inl rfl)); have n2_ := am_ (below_step (hb1_ HB.out (IsS94.ge HI0.out)) hb); have n3_ := am_ (hbox); have n4_ := am_ ((by rw [hg]; exact (keep_size (w := w) (g := g) (row := none) (hk_ HK.out)) : w.heap.size ≤ gb168)); have n5_ := am_ ((Nat.le_trans HW0.out (by rw [hg]; exact (keep_size (w := w) (g := g) (row := none) (hk_ HK.out)) : w.heap.size ≤ gb168) : w0.heap.size ≤ gb168)); have n6_ := am_ ((by rw [hg]; exact Nat.ne_of_lt (IsS94.lt (show IsS94 w0 _ g s0_0 s0_1 s0_2 from by repeat (first | (with_reducible first | exact HI0.out | apply IsS94.alloc | apply IsS94.drewN | apply IsS94.drew | apply IsS94.set_1 | apply IsS94.set_2) | exact HI0.out))) : g ≠ gb168)); have n7_ := am_ ((by rw [hg]; exact Nat.ne_of_gt (IsS94.lt (show IsS94 w0 _ g s0_0 s0_1 s0_2 from by repeat (first | (with_reducible first | exact HI0.out | apply IsS94.alloc | apply IsS94.drewN | apply IsS94.drew | apply IsS94.set_1 | apply IsS94.set_2) | exact HI0.out))) : gb168 ≠ g)); clear HI0; clear HK; clear HB; have HI0 := n0_; have HK := n1_; have HB := n2_; have BK168 := n3_; have GW168 := n4_; have GE168 := n5_; have NB0_168 := n6_; have NB168_0 := n7_; clear n0_ n1_ n2_ n3_ n4_ n5_ n6_ n7_; clear hb hbox hg) | ((with_reducible refine gate_callee (f := 84) rfl ?_); refine gl_ Try.func84 #[.pointer (some ⟨g, 0, none⟩)] ?_; (with_reducible refine (spec_l13DrawPlan.calls k g s0_0 s0_1 s0_2 t169 t170 t171 t174 t175 w0 _ ?side1 ?side2 A2.out).mono ?_); (case side1 => repeat (first | (with_reducible first | exact HI0.out | apply IsS94.alloc | apply IsS94.drewN | apply IsS94.drew | apply IsS94.set_1 | apply IsS94.set_2 | refine IsS94.far ?_ NB0_168.out _) | exact HI0.out)); (case side2 => exact hb2_ HB.out (IsS94.ge HI0.out) GE168.out); rintro e w62 ⟨v172, rfl, ho0, hi, hb, hk⟩; refine ⟨_, rfl, ?_⟩; have HO173 := am_ (Kd.R_lower ho0 (keep_size (w := w) (g := g) (row := none) (hk1_ HK.out GW168.out))); replace BK168 := am_ (KeepBut.blk hk (g' := gb168) (o := .cells #[.int .i64 0, .int .i64 0, .slice none 0 0] 30 (0, 0)) (bk_ BK168.out) NB168_0.out (by simp)); replace HK := am_ (KeepBut.trans (hk1_ HK.out GW168.out) hk (.inl rfl)); replace HI0 := am_ (hi); replace HB := am_ (hb); (try clear hb); (try clear hb2); (try clear hk); (try clear hi); (try clear ho0)) | ((with_reducible refine gate_dst (N := 3) rfl ?_); refine be_ (N := 3) (cs := #[.int .i64 0, .int .i64 0, .slice none 0 0]) (t := 30) ?_; intro gb176 hg w63 hbox hb; have n0_ := am_ (Kd.R_below (by (with_reducible repeat (first | apply Kd.R_alloc | apply Kd.R_drewN | apply Kd.R_drew)); exact HO173.out) hb); have n1_ := am_ (IsS94.below (by repeat (first | (with_reducible first | exact HI0.out | apply IsS94.alloc | apply IsS94.drewN | apply IsS94.drew | apply IsS94.set_1 | apply IsS94.set_2 | refine IsS94.far ?_ NB0_168.out _) | exact HI0.out)) hb); have n2_ := am_ (bb_ BK168.out hb); have n3_ := am_ (KeepBut.trans (hk1_ HK.out GW168.out) (KeepBut.of_below hb g none) (.inl rfl)); have n4_ := am_ (below_step (hb2_ HB.out (IsS94.ge HI0.out) GE168.out) hb); have n5_ := am_ (hbox); have n6_ := am_ ((by rw [hg]; exact (keep_size (w := w) (g := g) (row := none) (hk1_ HK.out GW168.out)) : w.heap.size ≤ gb176)); have n7_ := am_ ((Nat.le_trans HW0.out (by rw [hg]; exact (keep_size (w := w) (g := g) (row := none) (hk1_ HK.out GW168.out)) : w.heap.size ≤ gb176) : w0.heap.size ≤ gb176)); have n8_ := am_ ((bl_ hg BK168.out : gb168 ≠ gb176)); have n9_ := am_ ((bg_ hg BK168.out : gb176 ≠ gb168)); have n10_ := am_ ((by rw [hg]; exact Nat.ne_of_lt (IsS94.lt (show IsS94 w0 _ g s0_0 t174 t175 from by repeat (first | (with_reducible first | exact HI0.out | apply IsS94.alloc | apply IsS94.drewN | apply IsS94.drew | apply IsS94.set_1 | apply IsS94.set_2 | refine IsS94.far ?_ NB0_168.out _) | exact HI0.out))) : g ≠ gb176)); have n11_ := am_ ((by rw [hg]; exact Nat.ne_of_gt (IsS94.lt (show IsS94 w0 _ g s0_0 t174 t175 from by repeat (first | (with_reducible first | exact HI0.out | apply IsS94.alloc | apply IsS94.drewN | apply IsS94.drew | apply IsS94.set_1 | apply IsS94.set_2 | refine IsS94.far ?_ NB0_168.out _) | exact HI0.out))) : gb176 ≠ g)); clear HO173; clear HI0; clear BK168; clear HK; clear HB; have HO173 := n0_; have HI0 := n1_; have BK168 := n2_; have HK := n3_; have HB := n4_; have BK176 := n5_; have GW176 := n6_; have GE176 := n7_; have NB168_176 := n8_; have NB176_168 := n9_; have NB0_176 := n10_; have NB176_0 := n11_; clear n0_ n1_ n2_ n3_ n4_ n5_ n6_ n7_ n8_ n9_ n10_ n11_; clear hb hbox hg; have hnb64 := NB176_168.out; have hnc64 := NB168_176.out; have hnb65 := NB176_0.out; have hnc65 := NB0_176.out; obtain ⟨hcz66_0, hcz66_1, hcz66_2, hfz66_0, hfz66_1, hfz66_2⟩ := bc3_ BK176.out; obtain ⟨Ao67, co67, eo67⟩ := Kd.R_slice HO173.out; subst eo67) | ((with_reducible refine gate_callee (f := 41) rfl ?_); refine gl_ Try.func41 #[.pointer (some ⟨g, 0, none⟩), .int .i64 25] ?_; (with_reducible refine (spec_l1Below.calls g s0_0 t174 t175 25 t177 t178 t179 w0 _ ?side1 ?side2 A3.out).mono ?_); (case side1 => repeat (first | (with_reducible first | exact HI0.out | apply IsS94.alloc | apply IsS94.drewN | apply IsS94.drew | apply IsS94.set_1 | apply IsS94.set_2 | refine IsS94.far ?_ NB0_168.out _ | refine IsS94.far ?_ NB0_176.out _) | exact HI0.out)); (case side2 => exact hb3_ HB.out (IsS94.ge HI0.out) GE168.out GE176.out); rintro e w68 ⟨rfl, hi, hb, hk⟩; refine ⟨_, rfl, ?_⟩; replace BK168 := am_ (KeepBut.blk hk (g' := gb168) (o := .cells #[.int .i64 0, .int .i64 0, .slice none 0 0] 30 (0, 0)) (by (with_reducible repeat (first | refine blk_drewN ?_ _ | refine blk_drew ?_ | refine blk_alloc ?_ _)); refine blk_far ?_ NB168_176.out _; (with_reducible repeat (first | refine blk_drewN ?_ _ | refine blk_drew ?_ | refine blk_alloc ?_ _)); refine blk_far ?_ NB168_176.out _; (with_reducible repeat (first | refine blk_drewN ?_ _ | refine blk_drew ?_ | refine blk_alloc ?_ _)); refine blk_far ?_ NB168_176.out _; (with_reducible repeat (first | refine blk_drewN ?_ _ | refine blk_drew ?_ | refine blk_alloc ?_ _)); exact BK168.out) NB168_0.out (by simp)); replace HO173 := am_ (Kd.R_mono (Kd.R_keep (IsS94.apart (show IsS94 w0 _ g s0_0 t174 t175 from by repeat (first | (with_reducible first | exact HI0.out | apply IsS94.alloc | apply IsS94.drewN | apply IsS94.drew | apply IsS94.set_1 | apply IsS94.set_2 | refine IsS94.far ?_ NB0_168.out _ | refine IsS94.far ?_ NB0_176.out _) | exact HI0.out)) (by (with_reducible repeat (first | apply Kd.R_alloc | apply Kd.R_drewN | apply Kd.R_drew)); exact (Kd.R_mono (Kd.R_far (p := ⟨gb176, 2, none⟩) (Kd.R_far (p := ⟨gb176, 1, none⟩) (Kd.R_far (p := ⟨gb176, 0, none⟩) (Kd.R_types HO173.out BK176.out (by decide)) (fun _ hk => hk.2) (.int .i64 t169)) (fun _ hk => hk.2) (.int .i64 t170)) (fun _ hk => hk.2) (.slice Ao67 t171.length co67)) (fun _ h_ => h_.1))) (by decide)) hk (fun _ h => h.2)) (fun _ h => h.1)); replace BK176 := am_ (KeepBut.blk hk (g' := gb176) (o := .cells #[.int .i64 t169, .int .i64 t170, .slice Ao67 t171.length co67] 30 (0, 0)) (by (with_reducible repeat (first | refine blk_drewN ?_ _ | refine blk_drew ?_ | refine blk_alloc ?_ _)); refine blk_put (cs := #[.int .i64 t169, .int .i64 t170, .slice none 0 0]) ?_ 2 _ rfl; (with_reducible repeat (first | refine blk_drewN ?_ _ | refine blk_drew ?_ | refine blk_alloc ?_ _)); refine blk_put (cs := #[.int .i64 t169, .int .i64 0, .slice none 0 0]) ?_ 1 _ rfl; (with_reducible repeat (first | refine blk_drewN ?_ _ | refine blk_drew ?_ | refine blk_alloc ?_ _)); refine blk_put (cs := #[.int .i64 0, .int .i64 0, .slice none 0 0]) ?_ 0 _ rfl; (with_reducible repeat (first | refine blk_drewN ?_ _ | refine blk_drew ?_ | refine blk_alloc ?_ _)); exact BK176.out) NB176_0.out (by simp)); replace HK := am_ (KeepBut.trans (hk2_ HK.out GW168.out GW176.out) hk (.inl rfl)); replace HI0 := am_ (hi); replace HB := am_ (hb); (try clear hb); (try clear hb2); (try clear hk); (try clear hi)))
      have n0_ := am_ (Kd.R_drew HO173.out)
      have n1_ := am_ (blk_drew BK168.out)
      have n2_ := am_ (blk_drew BK176.out)
      have n3_ := am_ (IsS94.drew HI0.out)
      have n4_ := am_ (keep_drew HK.out)
      have n5_ := am_ (below_drew1 HB.out)
      clear HO173
      clear BK168
      clear BK176
      clear HI0
      clear HK
      clear HB
      have HO173 := n0_
      have BK168 := n1_
      have BK176 := n2_
      have HI0 := n3_
      have HK := n4_
      have HB := n5_
      clear n0_ n1_ n2_ n3_ n4_ n5_
      refine start_ (n := 8) (S := fun w' => w'.cell? ⟨gb176, 0, none⟩ = some (.int .i64 t169) ∧ w'.cell? ⟨gb176, 1, none⟩ = some (.int .i64 t170) ∧ w'.cell? ⟨gb176, 2, none⟩ = some (.slice Ao67 t171.length co67)) (ds := [7]) #[false, false, false, false, false, false, false, false] (by kernel_rfl) rfl rfl ⟨(blk_cell BK176.out 0).trans rfl, (blk_cell BK176.out 1).trans rfl, (blk_cell BK176.out 2).trans rfl⟩ (fun hHeld => ?_); refine with_tabW spec_l13DrawAny.tab10 spec_l13DrawAny.bits10 (fun HT_ HW_ => ?_)
      generalize w68.drew = w69 at HO173 BK168 BK176 HI0 HK HB hHeld ⊢
      refine pure_ (i := 0) (N := some 30) (v := ?_) (a' := ?_) #[true, false, false, false, false, false, false, false] rfl rfl (any_of HT_.out (by kernel_rfl)) (fun _ _ _ h => h) (Or.inl ⟨by rfl, ?_⟩) ?_ ?_
      rotate_left
      ·intro w'
       go_simp
       with_reducible rfl
      rotate_left
      ·simp only [Act.put, List.setIfInBounds_toArray, List.set_cons_zero, List.set_cons_succ, i64_w, i32_w]
       rfl
      refine pure_ (i := 2) (N := some 32) (v := ?_) (a' := ?_) #[true, false, true, false, false, false, false, false] rfl rfl (any_of HT_.out (by kernel_rfl)) (fun _ _ _ h => h) (Or.inl ⟨by rfl, ?_⟩) ?_ ?_
      rotate_left
      ·intro w'
       go_simp
       with_reducible rfl
      rotate_left
      ·simp only [Act.put, List.setIfInBounds_toArray, List.set_cons_zero, List.set_cons_succ, i64_w, i32_w]
       rfl
      refine take_ (i := 1) (N := some 31) (v := ?_) (a' := ?_) #[true, true, true, false, false, false, false, false] rfl rfl (take_ofW HT_.out HW_.out (by kernel_rfl)) (fun _ _ _ h => h) (Or.inl ⟨by rfl, ?_⟩) hHeld ?_ ?_
      rotate_left
      ·rintro w' ⟨s0, s1, s2⟩
       go_simp
       with_reducible rfl
      rotate_left
      ·simp only [Act.put, List.setIfInBounds_toArray, List.set_cons_zero, List.set_cons_succ, i64_w, i32_w]
       rfl
      refine one_ (i := 3) (N := some 33) #[true, true, true, true, false, false, false, false] rfl rfl (one_of HT_.out (by kernel_rfl)) (by decide) (fun K hK => ?_)
      refine Kd.R_lit_step (Kd.int .i64) _ 3 ?hg (N := 33) ?hd (xs := ([0, 1000000, 1000001] : List Int)) (inner := [.int .i64 0, .int .i64 1000000, .int .i64 1000001]) (ok := fun _ => True) (okp := fun _ => True) ?hr ?hp (fun _ hk => hk) trivial (Below.refl _ _) (Nat.le_refl _) (by simp) ?_; (case hd => rfl); (case hg => rfl); (case hr => first|(go_simp;done)|(go_simp;rfl)); (case hp => exact (Reps.one (show Kd.M (Kd.int .i64) _ _ _ 0 [.int .i64 0] from rfl) (Reps.one (show Kd.M (Kd.int .i64) _ _ _ 1000000 [.int .i64 1000000] from rfl) (Reps.one (show Kd.M (Kd.int .i64) _ _ _ 1000001 [.int .i64 1000001] from rfl) (Reps.none _ _)))))
      intro v197 w70 ho71 hb hg_ hnew_
      clear hg_ hnew_
      (first | rw [← Ny196.out] at ho71 | (simp only [Int.reduceToNat] at ho71; rw [← Ny196.out] at ho71))
      have n0_ := am_ (Kd.R_below (by (with_reducible repeat (first | apply Kd.R_alloc | apply Kd.R_drewN | apply Kd.R_drew)); exact HO173.out) hb)
      have n1_ := am_ (Kd.R_lower ho71 (keep_size (w := w) (g := g) (row := none) (hk2_ HK.out GW168.out GW176.out)))
      have n2_ := am_ (IsS94.below (by repeat (first | (with_reducible first | exact HI0.out | apply IsS94.alloc | apply IsS94.drewN | apply IsS94.drew | apply IsS94.set_1 | apply IsS94.set_2 | refine IsS94.far ?_ NB0_168.out _ | refine IsS94.far ?_ NB0_176.out _) | exact HI0.out)) hb)
      have n3_ := am_ (bb_ BK168.out hb)
      have n4_ := am_ (bb_ BK176.out hb)
      have n5_ := am_ (KeepBut.trans (hk2_ HK.out GW168.out GW176.out) (KeepBut.of_below hb g none) (.inl rfl))
      have n6_ := am_ (below_step (hb3_ HB.out (IsS94.ge HI0.out) GE168.out GE176.out) hb)
      clear HO173
      clear HI0
      clear BK168
      clear BK176
      clear HK
      clear HB
      have HO173 := n0_
      have HO198 := n1_
      have HI0 := n2_
      have BK168 := n3_
      have BK176 := n4_
      have HK := n5_
      have HB := n6_
      clear n0_ n1_ n2_ n3_ n4_ n5_ n6_
      clear hb ho71
      obtain ⟨Ao72, co72, eo72⟩ := Kd.R_slice HO198.out
      (first | subst eo72 | (injection eo72 with f1_ f2_ f3_; have f4_ := f1_.symm; have f5_ := f3_.symm; clear f1_ f2_ f3_; subst f4_; subst f5_))
      refine hK.out _ _ ⟨(blk_cell BK176.out 0).trans rfl, (blk_cell BK176.out 1).trans rfl, (blk_cell BK176.out 2).trans rfl⟩ (fun hHeld => ?_)
      clear hK K
      refine norm_ (a' := ?_) ?_ ?_
      rotate_left
      ·show Act.put _ (some 33) _ = _
       simp only [Act.put, List.setIfInBounds_toArray, List.set_cons_zero, List.set_cons_succ, i64_w, i32_w]
       rfl
      refine one_ (i := 4) (N := some 34) #[true, true, true, true, true, false, false, false] rfl rfl (one_of HT_.out (by kernel_rfl)) (by decide) (fun K hK => ?_)
      refine goes_ Try.func44 (by kernel_rfl) rfl #[.pointer (some ⟨g, 0, none⟩), .slice Ao72 y196.length co72] (by rfl) rfl rfl arr_ ?_
      with_reducible refine (spec_l1PickInt.calls g s0_0 t178 t179 _ _ y196 t199 t200 t201 w0 _ ?side1 ?side2 ?side3 ?side4 ?side5 A58.out).mono ?_
      (case side1 => repeat (first | (with_reducible first | exact HI0.out | apply IsS94.alloc | apply IsS94.drewN | apply IsS94.drew | apply IsS94.set_1 | apply IsS94.set_2 | refine IsS94.far ?_ NB0_168.out _ | refine IsS94.far ?_ NB0_176.out _) | exact HI0.out))
      (case side2 => exact hb3_ HB.out (IsS94.ge HI0.out) GE168.out GE176.out)
      (case side3 => repeat (first | exact (Kd.R_reads' HO198.out).2.2 | (with_reducible refine Kd.C_alloc ?_ _) | (with_reducible refine Kd.C_drewN ?_ _) | (with_reducible refine Kd.C_drew ?_)))
      (case side4 => exact (Kd.R_reads' HO198.out).2.1)
      (case side5 => exact far_slice (IsS94.own_ne HI0.out HO198.out (by decide)))
      rintro e w73 ⟨rfl, hi, hb, hk⟩
      refine ⟨_, rfl, ?_⟩
      have n0_ := am_ (KeepBut.blk hk (g' := gb168) (o := .cells #[.int .i64 0, .int .i64 0, .slice none 0 0] 30 (0, 0)) (bk_ BK168.out) NB168_0.out (by simp))
      have n1_ := am_ (Kd.R_mono (Kd.R_keep (IsS94.apart (show IsS94 w0 _ g s0_0 t178 t179 from by repeat (first | (with_reducible first | exact HI0.out | apply IsS94.alloc | apply IsS94.drewN | apply IsS94.drew | apply IsS94.set_1 | apply IsS94.set_2 | refine IsS94.far ?_ NB0_168.out _ | refine IsS94.far ?_ NB0_176.out _) | exact HI0.out)) (by (with_reducible repeat (first | apply Kd.R_alloc | apply Kd.R_drewN | apply Kd.R_drew)); exact HO173.out) (by decide)) hk (fun _ h => h.2)) (fun _ h => h.1))
      have n2_ := am_ (KeepBut.blk hk (g' := gb176) (o := .cells #[.int .i64 t169, .int .i64 t170, .slice Ao67 t171.length co67] 30 (0, 0)) (bk_ BK176.out) NB176_0.out (by simp))
      have n3_ := am_ (Kd.R_mono (Kd.R_keep (IsS94.apart (show IsS94 w0 _ g s0_0 t178 t179 from by repeat (first | (with_reducible first | exact HI0.out | apply IsS94.alloc | apply IsS94.drewN | apply IsS94.drew | apply IsS94.set_1 | apply IsS94.set_2 | refine IsS94.far ?_ NB0_168.out _ | refine IsS94.far ?_ NB0_176.out _) | exact HI0.out)) (by (with_reducible repeat (first | apply Kd.R_alloc | apply Kd.R_drewN | apply Kd.R_drew)); exact HO198.out) (by decide)) hk (fun _ h => h.2)) (fun _ h => h.1))
      have n4_ := am_ (KeepBut.trans (hk2_ HK.out GW168.out GW176.out) hk (.inl rfl))
      have n5_ := am_ (hb)
      have n6_ := am_ (hi)
      clear BK168
      clear HO173
      clear BK176
      clear HO198
      clear HK
      clear HB
      clear HI0
      have BK168 := n0_
      have HO173 := n1_
      have BK176 := n2_
      have HO198 := n3_
      have HK := n4_
      have HB := n5_
      have HI0 := n6_
      clear n0_ n1_ n2_ n3_ n4_ n5_ n6_
      (try clear hb)
      (try clear hb2)
      (try clear hk)
      (try clear hi)
      have p60 : 0 ≤ (0 : Int) := (by omega)
      have q60 : (0 : Int) < ((t171.length : Int) : Int) := of_decide_eq_true (by first | (with_reducible assumption) | assumption)
      have qi60 : (0 < t171.length) = True := eq_true (by omega)
      obtain ⟨go60, co60, eo60, gb60, gl60, cl60, HG60⟩ := Kd.R_form HO173.out (by omega)
      (first | cases eo60 | (injection eo60 with ea_ en_ ec_; (first | subst ea_ | (injection ea_ with ea_; subst ea_)); subst ec_; clear en_))
      have GB60 := Aside0.mk gb60
      have GG60 := Aside0.mk HG60
      clear gb60 gl60 HG60
      obtain ⟨ce60, hcl60, hM60, hcc60, hfr60⟩ := Kd.R_elem HO173.out z42 (0 : Int) p60 q60
      obtain rfl := k42_openM hM60
      have hx60_0 : World.cell? _ ⟨go60, (0 : Int).toNat * 2, none⟩ = some (.int .i64 ((rd_T42 t171 0).f0)) := hcc60 0 _ rfl
      have hx60_1 : World.cell? _ ⟨go60, (0 : Int).toNat * 2 + 1, none⟩ = some (.int .i64 ((rd_T42 t171 0).f1)) := hcc60 1 _ rfl
      have hf60_0 : World.frozen? _ ⟨go60, (0 : Int).toNat * 2, none⟩ = false := hfr60 0
      have hf60_1 : World.frozen? _ ⟨go60, (0 : Int).toNat * 2 + 1, none⟩ = false := hfr60 1
      clear hcl60 hcc60 hfr60 hM60
      (try rw [show ((0 : Int)).toNat = 0 from rfl] at hx60_0)
      (try simp only [Nat.reduceMul, Nat.zero_mul, Nat.zero_add, Nat.reduceAdd] at hx60_0)
      (try rw [show ((0 : Int)).toNat = 0 from rfl] at hf60_0)
      (try simp only [Nat.reduceMul, Nat.zero_mul, Nat.zero_add, Nat.reduceAdd] at hf60_0)
      (try rw [show ((0 : Int)).toNat = 0 from rfl] at hx60_1)
      (try simp only [Nat.reduceMul, Nat.zero_mul, Nat.zero_add, Nat.reduceAdd] at hx60_1)
      (try rw [show ((0 : Int)).toNat = 0 from rfl] at hf60_1)
      (try simp only [Nat.reduceMul, Nat.zero_mul, Nat.zero_add, Nat.reduceAdd] at hf60_1)
      replace p60 := eq_true p60
      replace q60 := eq_true q60
      have HN0_go60 := am_ (show g ≠ go60 from by have h_ := IsS94.own_ne HI0.out HO173.out (by decide); intro e_; exact h_ (by rw [e_]; rfl))
      obtain ⟨ce74, hcl74, hM74, hcc74, hfr74⟩ := Kd.R_elem HO173.out z42 (0 : Int) (by omega) (by have h_ : (0 : Int) < ((t171.length : Int) : Int) := of_decide_eq_true (by first | (with_reducible assumption) | assumption); first | exact h_ | (have e_ := (Kd.R_reads' HO173.out).1; omega) | simpa using h_)
      obtain rfl := k42_openM hM74
      have HP74 := (Kd.R_seg HO173.out (0 : Int) (by omega) (by have h_ : (0 : Int) < ((t171.length : Int) : Int) := of_decide_eq_true (by first | (with_reducible assumption) | assumption); first | exact h_ | (have e_ := (Kd.R_reads' HO173.out).1; omega) | simpa using h_) (seg := [.int .i64 t199]) (j := 1) hcl74 hcc74 (show 2 ≤ 2 from by decide) (x' := (⟨(rd_T42 t171 0).f0, t199⟩ : S42)) (k42_mkM _ _ _ (⟨(rd_T42 t171 0).f0, t199⟩ : S42) ) (fun _ hk => hk)).1
      rw [← Ny202.out] at HP74
      have HQ74 := Aside0.mk HP74
      clear hcl74 hcc74 hfr74 hM74 HP74
      refine hK.out _ _ ⟨(blk_cell BK176.out 0).trans rfl, (blk_cell BK176.out 1).trans rfl, (blk_cell BK176.out 2).trans rfl⟩ (fun hHeld => ?_)
      clear hK K
      refine norm_ (a' := ?_) ?_ ?_
      rotate_left
      ·show Act.put _ (some 34) _ = _
       simp only [Act.put, List.setIfInBounds_toArray, List.set_cons_zero, List.set_cons_succ, i64_w, i32_w]
       rfl
      refine pure_ (i := 5) (N := some 35) (v := ?_) (a' := ?_) #[true, true, true, true, true, true, false, false] rfl rfl (any_of HT_.out (by kernel_rfl)) (fun _ _ _ h => h) (Or.inl ⟨by rfl, ?_⟩) ?_ ?_
      rotate_left
      ·intro w'
       go_simp
       with_reducible rfl
      rotate_left
      ·simp only [Act.put, List.setIfInBounds_toArray, List.set_cons_zero, List.set_cons_succ, i64_w, i32_w]
       rfl
      refine pure_ (i := 6) (N := some 36) (v := ?_) (a' := ?_) #[true, true, true, true, true, true, true, false] rfl rfl (any_of HT_.out (by kernel_rfl)) (fun _ _ _ h => h) (Or.inl ⟨by rfl, ?_⟩) ?_ ?_
      rotate_left
      ·intro w'
       go_simp
       with_reducible rfl
      rotate_left
      ·simp only [Act.put, List.setIfInBounds_toArray, List.set_cons_zero, List.set_cons_succ, i64_w, i32_w]
       rfl
      refine last_ (i := 7) (N := none) #[true, true, true, true, true, true, true, true] rfl rfl (one_of HT_.out (by kernel_rfl)) (by decide) (fun K hK => ?_)
      refine skip_ (w1 := ?_) (by rfl) rfl ?_ ?_
      rotate_left
      ·go_simp
       rfl
      refine hK.out _ _ ?_
      clear hK K
      refine done_ (done_of HT_.out (by kernel_rfl)) ?_
      have n0_ : Aside0 (Kd.R k42 42 (w73.setCell ⟨go60, 1, none⟩ (.int .i64 t199)) w.heap.size (fun _ => True) (.slice (some ⟨go60, 0, none⟩) t171.length co67) y202) := ⟨by (with_reducible repeat (first | apply Kd.R_alloc | apply Kd.R_drewN | apply Kd.R_drew)); exact HQ74.out⟩
      have n1_ : Aside0 (Kd.R (Kd.int .i64) 3 (w73.setCell ⟨go60, 1, none⟩ (.int .i64 t199)) w.heap.size (fun _ => True) (.slice Ao72 y196.length co72) y196) := ⟨by (with_reducible repeat (first | apply Kd.R_alloc | apply Kd.R_drewN | apply Kd.R_drew)); exact Kd.R_mono (Kd.R_far (p := ⟨go60, 1, none⟩) (Kd.R_types HO198.out GG60.out (by decide)) (fun _ hk => hk.2) (.int .i64 t199)) (fun _ hk => trivial)⟩
      have n2_ : Aside0 ((w73.setCell ⟨go60, 1, none⟩ (.int .i64 t199)).heap[gb168]? = some (.cells #[.int .i64 0, .int .i64 0, .slice none 0 0] 30 (0, 0))) := ⟨by (with_reducible repeat (first | refine blk_drewN ?_ _ | refine blk_drew ?_ | refine blk_alloc ?_ _)); refine blk_far ?_ (by have h_ := Kd.R_ne HO173.out BK168.out (by decide); intro e_; exact h_ (by rw [e_]; rfl)) _; (with_reducible repeat (first | refine blk_drewN ?_ _ | refine blk_drew ?_ | refine blk_alloc ?_ _)); exact BK168.out⟩
      have n3_ : Aside0 ((w73.setCell ⟨go60, 1, none⟩ (.int .i64 t199)).heap[gb176]? = some (.cells #[.int .i64 t169, .int .i64 t170, .slice (some ⟨go60, 0, none⟩) t171.length co67] 30 (0, 0))) := ⟨by (with_reducible repeat (first | refine blk_drewN ?_ _ | refine blk_drew ?_ | refine blk_alloc ?_ _)); refine blk_far ?_ (by have h_ := Kd.R_ne HO173.out BK176.out (by decide); intro e_; exact h_ (by rw [e_]; rfl)) _; (with_reducible repeat (first | refine blk_drewN ?_ _ | refine blk_drew ?_ | refine blk_alloc ?_ _)); exact BK176.out⟩
      have n4_ : Aside0 (IsS94 w0 (w73.setCell ⟨go60, 1, none⟩ (.int .i64 t199)) g s0_0 t200 t201) := ⟨by repeat (first | (with_reducible first | exact HI0.out | apply IsS94.alloc | apply IsS94.drewN | apply IsS94.drew | apply IsS94.set_1 | apply IsS94.set_2 | refine IsS94.far ?_ HN0_go60.out _ | refine IsS94.far ?_ NB0_168.out _ | refine IsS94.far ?_ NB0_176.out _) | exact HI0.out)⟩
      have n5_ : Aside0 (KeepBut w (w73.setCell ⟨go60, 1, none⟩ (.int .i64 t199)) g none) := ⟨hk3_ HK.out GB60.out GW168.out GW176.out⟩
      have n6_ : Aside0 (Below w0.heap.size w0 (w73.setCell ⟨go60, 1, none⟩ (.int .i64 t199))) := ⟨hb4_ HB.out (Nat.le_trans HL.out GB60.out) (IsS94.ge HI0.out) GE168.out GE176.out⟩
      (try clear HO173)
      (try clear HO198)
      (try clear BK168)
      (try clear BK176)
      (try clear HI0)
      (try clear HK)
      (try clear HB)
      generalize (w73.setCell ⟨go60, 1, none⟩ (.int .i64 t199)) = w75 at n0_ n1_ n2_ n3_ n4_ n5_ n6_ ⊢
      have HO173 := n0_
      have HO198 := n1_
      have BK168 := n2_
      have BK176 := n3_
      have HI0 := n4_
      have HK := n5_
      have HB := n6_
      clear n0_ n1_ n2_ n3_ n4_ n5_ n6_
      have hcz76_0 := bc_ BK176.out 0 (.int .i64 t169) rfl
      have hcz76_1 := bc_ BK176.out 1 (.int .i64 t170) rfl
      have hcz76_2 : w75.cell? ⟨gb176, 2, none⟩ = some (.slice (some ⟨go60, 0, none⟩) t171.length co67) := (blk_cell BK176.out 2).trans rfl
      have hfz76_0 := blk_frozen BK176.out 0
      have hfz76_1 := blk_frozen BK176.out 1
      have hfz76_2 := blk_frozen BK176.out 2
      have hnb77 := NB168_0.out
      have hnc77 := NB0_168.out
      have hcz78_0 := bc_ BK168.out 0 (.int .i64 0) rfl
      have hcz78_1 := bc_ BK168.out 1 (.int .i64 0) rfl
      have hcz78_2 := bc_ BK168.out 2 (.slice none 0 0) rfl
      have hfz78_0 := blk_frozen BK168.out 0
      have hfz78_1 := blk_frozen BK168.out 1
      have hfz78_2 := blk_frozen BK168.out 2
      try go_wp2
      refine bodyPost_ret (results_cell_row rfl _ _ gb168 30 #[.int .i64 t169, .int .i64 t170, .slice (some ⟨go60, 0, none⟩) t171.length co67] (0, 0) _ rfl (by (with_reducible repeat (first | refine blk_drewN ?_ _ | refine blk_drew ?_ | refine blk_alloc ?_ _)); refine blk_put (cs := #[.int .i64 t169, .int .i64 t170, .slice none 0 0]) ?_ 2 _ rfl; (with_reducible repeat (first | refine blk_drewN ?_ _ | refine blk_drew ?_ | refine blk_alloc ?_ _)); refine blk_put (cs := #[.int .i64 t169, .int .i64 0, .slice none 0 0]) ?_ 1 _ rfl; (with_reducible repeat (first | refine blk_drewN ?_ _ | refine blk_drew ?_ | refine blk_alloc ?_ _)); refine blk_put (cs := #[.int .i64 0, .int .i64 0, .slice none 0 0]) ?_ 0 _ rfl; (with_reducible repeat (first | refine blk_drewN ?_ _ | refine blk_drew ?_ | refine blk_alloc ?_ _)); exact BK168.out) Try.underlying30 rfl (by kernel_rfl)) rfl ?_
      exact ⟨_, er_, by (with_reducible repeat (first | apply Kd.R_alloc | apply Kd.R_drewN | apply Kd.R_drew)); exact Kd.R_mono (Kd.R_far (p := ⟨gb168, 2, none⟩) (Kd.R_far (p := ⟨gb168, 1, none⟩) (Kd.R_far (p := ⟨gb168, 0, none⟩) (Kd.R_types HO173.out BK168.out (by decide)) (fun _ hk => hk.2) (.int .i64 t169)) (fun _ hk => hk.2) (.int .i64 t170)) (fun _ hk => hk.2) (.slice (some ⟨go60, 0, none⟩) t171.length co67)) (fun _ hk => trivial), by repeat (first | (with_reducible first | exact HI0.out | apply IsS94.alloc | apply IsS94.drewN | apply IsS94.drew | apply IsS94.set_1 | apply IsS94.set_2 | refine IsS94.far ?_ NB0_168.out _ | refine IsS94.far ?_ NB0_176.out _) | exact HI0.out), hb3_ HB.out (IsS94.ge HI0.out) GE168.out GE176.out, hk2_ HK.out GW168.out GW176.out⟩
     ·rw [if_neg c59] at H
      exact absurd H (by simp)
    ·rw [if_neg c57] at H
     have c57b0 : (t177 == 3) = false := beq_eq_false_iff_ne.mpr c57
     have c57b1 : (t177 != 3) = true := bne_iff_ne.mpr c57
     by_cases c79 : t177 = 4
     ·rw [if_pos c79] at H
      have c79b0 : (t177 == 4) = true := beq_iff_eq.mpr c79
      have c79b1 : (t177 != 4) = false := bne_eq_false_iff_eq.mpr c79
      clear c79
      simp only [Option.some.injEq, Prod.mk.injEq] at H
      obtain ⟨rfl, rfl, rfl, rfl, rfl⟩ := H
      go_enter Try.func37, Try.ntmps37
      go_wp2_with (first | ((with_reducible refine gate_dst (N := 2) rfl ?_); refine be_ (N := 2) (cs := #[.int .i64 0, .int .i64 0, .slice none 0 0]) (t := 30) ?_; intro gb168 hg w80 hbox hb; have n0_ := am_ (IsS94.below (by repeat (first | (with_reducible first | exact HI0.out | apply IsS94.alloc | apply IsS94.drewN | apply IsS94.drew | apply IsS94.set_1 | apply IsS94.set_2) | exact HI0.out)) hb); have n1_ := am_ (KeepBut.trans (hk_ HK.out) (KeepBut.of_below hb g none) (.inl rfl)); have n2_ := am_ (below_step (hb1_ HB.out (IsS94.ge HI0.out)) hb); have n3_ := am_ (hbox); have n4_ := am_ ((by rw [hg]; exact (keep_size (w := w) (g := g) (row := none) (hk_ HK.out)) : w.heap.size ≤ gb168)); have n5_ := am_ ((Nat.le_trans HW0.out (by rw [hg]; exact (keep_size (w := w) (g := g) (row := none) (hk_ HK.out)) : w.heap.size ≤ gb168) : w0.heap.size ≤ gb168)); have n6_ := am_ ((by rw [hg]; exact Nat.ne_of_lt (IsS94.lt (show IsS94 w0 _ g s0_0 s0_1 s0_2 from by repeat (first | (with_reducible first | exact HI0.out | apply IsS94.alloc | apply IsS94.drewN | apply IsS94.drew | apply IsS94.set_1 | apply IsS94.set_2) | exact HI0.out))) : g ≠ gb168)); have n7_ := am_ ((by rw [hg]; exact Nat.ne_of_gt (IsS94.lt (show IsS94 w0 _ g s0_0 s0_1 s0_2 from by repeat (first | (with_reducible first | exact HI0.out | apply IsS94.alloc | apply IsS94.drewN | apply IsS94.drew | apply IsS94.set_1 | apply IsS94.set_2) | exact HI0.out))) : gb168 ≠ g)); clear HI0; clear HK; clear HB; have HI0 := n0_; have HK := n1_; have HB := n2_; have BK168 := n3_; have GW168 := n4_; have GE168 := n5_; have NB0_168 := n6_; have NB168_0 := n7_; clear n0_ n1_ n2_ n3_ n4_ n5_ n6_ n7_; clear hb hbox hg) | ((with_reducible refine gate_callee (f := 84) rfl ?_); refine gl_ Try.func84 #[.pointer (some ⟨g, 0, none⟩)] ?_; (with_reducible refine (spec_l13DrawPlan.calls k g s0_0 s0_1 s0_2 t169 t170 t171 t174 t175 w0 _ ?side1 ?side2 A2.out).mono ?_); (case side1 => repeat (first | (with_reducible first | exact HI0.out | apply IsS94.alloc | apply IsS94.drewN | apply IsS94.drew | apply IsS94.set_1 | apply IsS94.set_2 | refine IsS94.far ?_ NB0_168.out _) | exact HI0.out)); (case side2 => exact hb2_ HB.out (IsS94.ge HI0.out) GE168.out); rintro e w81 ⟨v172, rfl, ho0, hi, hb, hk⟩; refine ⟨_, rfl, ?_⟩; have HO173 := am_ (Kd.R_lower ho0 (keep_size (w := w) (g := g) (row := none) (hk1_ HK.out GW168.out))); replace BK168 := am_ (KeepBut.blk hk (g' := gb168) (o := .cells #[.int .i64 0, .int .i64 0, .slice none 0 0] 30 (0, 0)) (bk_ BK168.out) NB168_0.out (by simp)); replace HK := am_ (KeepBut.trans (hk1_ HK.out GW168.out) hk (.inl rfl)); replace HI0 := am_ (hi); replace HB := am_ (hb); (try clear hb); (try clear hb2); (try clear hk); (try clear hi); (try clear ho0)) | ((with_reducible refine gate_dst (N := 3) rfl ?_); refine be_ (N := 3) (cs := #[.int .i64 0, .int .i64 0, .slice none 0 0]) (t := 30) ?_; intro gb176 hg w82 hbox hb; have n0_ := am_ (Kd.R_below (by (with_reducible repeat (first | apply Kd.R_alloc | apply Kd.R_drewN | apply Kd.R_drew)); exact HO173.out) hb); have n1_ := am_ (IsS94.below (by repeat (first | (with_reducible first | exact HI0.out | apply IsS94.alloc | apply IsS94.drewN | apply IsS94.drew | apply IsS94.set_1 | apply IsS94.set_2 | refine IsS94.far ?_ NB0_168.out _) | exact HI0.out)) hb); have n2_ := am_ (bb_ BK168.out hb); have n3_ := am_ (KeepBut.trans (hk1_ HK.out GW168.out) (KeepBut.of_below hb g none) (.inl rfl)); have n4_ := am_ (below_step (hb2_ HB.out (IsS94.ge HI0.out) GE168.out) hb); have n5_ := am_ (hbox); have n6_ := am_ ((by rw [hg]; exact (keep_size (w := w) (g := g) (row := none) (hk1_ HK.out GW168.out)) : w.heap.size ≤ gb176)); have n7_ := am_ ((Nat.le_trans HW0.out (by rw [hg]; exact (keep_size (w := w) (g := g) (row := none) (hk1_ HK.out GW168.out)) : w.heap.size ≤ gb176) : w0.heap.size ≤ gb176)); have n8_ := am_ ((bl_ hg BK168.out : gb168 ≠ gb176)); have n9_ := am_ ((bg_ hg BK168.out : gb176 ≠ gb168)); have n10_ := am_ ((by rw [hg]; exact Nat.ne_of_lt (IsS94.lt (show IsS94 w0 _ g s0_0 t174 t175 from by repeat (first | (with_reducible first | exact HI0.out | apply IsS94.alloc | apply IsS94.drewN | apply IsS94.drew | apply IsS94.set_1 | apply IsS94.set_2 | refine IsS94.far ?_ NB0_168.out _) | exact HI0.out))) : g ≠ gb176)); have n11_ := am_ ((by rw [hg]; exact Nat.ne_of_gt (IsS94.lt (show IsS94 w0 _ g s0_0 t174 t175 from by repeat (first | (with_reducible first | exact HI0.out | apply IsS94.alloc | apply IsS94.drewN | apply IsS94.drew | apply IsS94.set_1 | apply IsS94.set_2 | refine IsS94.far ?_ NB0_168.out _) | exact HI0.out))) : gb176 ≠ g)); clear HO173; clear HI0; clear BK168; clear HK; clear HB; have HO173 := n0_; have HI0 := n1_; have BK168 := n2_; have HK := n3_; have HB := n4_; have BK176 := n5_; have GW176 := n6_; have GE176 := n7_; have NB168_176 := n8_; have NB176_168 := n9_; have NB0_176 := n10_; have NB176_0 := n11_; clear n0_ n1_ n2_ n3_ n4_ n5_ n6_ n7_ n8_ n9_ n10_ n11_; clear hb hbox hg; have hnb83 := NB176_168.out; have hnc83 := NB168_176.out; have hnb84 := NB176_0.out; have hnc84 := NB0_176.out; obtain ⟨hcz85_0, hcz85_1, hcz85_2, hfz85_0, hfz85_1, hfz85_2⟩ := bc3_ BK176.out; obtain ⟨Ao86, co86, eo86⟩ := Kd.R_slice HO173.out; subst eo86) | ((with_reducible refine gate_callee (f := 41) rfl ?_); refine gl_ Try.func41 #[.pointer (some ⟨g, 0, none⟩), .int .i64 25] ?_; (with_reducible refine (spec_l1Below.calls g s0_0 t174 t175 25 t177 t178 t179 w0 _ ?side1 ?side2 A3.out).mono ?_); (case side1 => repeat (first | (with_reducible first | exact HI0.out | apply IsS94.alloc | apply IsS94.drewN | apply IsS94.drew | apply IsS94.set_1 | apply IsS94.set_2 | refine IsS94.far ?_ NB0_168.out _ | refine IsS94.far ?_ NB0_176.out _) | exact HI0.out)); (case side2 => exact hb3_ HB.out (IsS94.ge HI0.out) GE168.out GE176.out); rintro e w87 ⟨rfl, hi, hb, hk⟩; refine ⟨_, rfl, ?_⟩; replace BK168 := am_ (KeepBut.blk hk (g' := gb168) (o := .cells #[.int .i64 0, .int .i64 0, .slice none 0 0] 30 (0, 0)) (by (with_reducible repeat (first | refine blk_drewN ?_ _ | refine blk_drew ?_ | refine blk_alloc ?_ _)); refine blk_far ?_ NB168_176.out _; (with_reducible repeat (first | refine blk_drewN ?_ _ | refine blk_drew ?_ | refine blk_alloc ?_ _)); refine blk_far ?_ NB168_176.out _; (with_reducible repeat (first | refine blk_drewN ?_ _ | refine blk_drew ?_ | refine blk_alloc ?_ _)); refine blk_far ?_ NB168_176.out _; (with_reducible repeat (first | refine blk_drewN ?_ _ | refine blk_drew ?_ | refine blk_alloc ?_ _)); exact BK168.out) NB168_0.out (by simp)); replace HO173 := am_ (Kd.R_mono (Kd.R_keep (IsS94.apart (show IsS94 w0 _ g s0_0 t174 t175 from by repeat (first | (with_reducible first | exact HI0.out | apply IsS94.alloc | apply IsS94.drewN | apply IsS94.drew | apply IsS94.set_1 | apply IsS94.set_2 | refine IsS94.far ?_ NB0_168.out _ | refine IsS94.far ?_ NB0_176.out _) | exact HI0.out)) (by (with_reducible repeat (first | apply Kd.R_alloc | apply Kd.R_drewN | apply Kd.R_drew)); exact (Kd.R_mono (Kd.R_far (p := ⟨gb176, 2, none⟩) (Kd.R_far (p := ⟨gb176, 1, none⟩) (Kd.R_far (p := ⟨gb176, 0, none⟩) (Kd.R_types HO173.out BK176.out (by decide)) (fun _ hk => hk.2) (.int .i64 t169)) (fun _ hk => hk.2) (.int .i64 t170)) (fun _ hk => hk.2) (.slice Ao86 t171.length co86)) (fun _ h_ => h_.1))) (by decide)) hk (fun _ h => h.2)) (fun _ h => h.1)); replace BK176 := am_ (KeepBut.blk hk (g' := gb176) (o := .cells #[.int .i64 t169, .int .i64 t170, .slice Ao86 t171.length co86] 30 (0, 0)) (by (with_reducible repeat (first | refine blk_drewN ?_ _ | refine blk_drew ?_ | refine blk_alloc ?_ _)); refine blk_put (cs := #[.int .i64 t169, .int .i64 t170, .slice none 0 0]) ?_ 2 _ rfl; (with_reducible repeat (first | refine blk_drewN ?_ _ | refine blk_drew ?_ | refine blk_alloc ?_ _)); refine blk_put (cs := #[.int .i64 t169, .int .i64 0, .slice none 0 0]) ?_ 1 _ rfl; (with_reducible repeat (first | refine blk_drewN ?_ _ | refine blk_drew ?_ | refine blk_alloc ?_ _)); refine blk_put (cs := #[.int .i64 0, .int .i64 0, .slice none 0 0]) ?_ 0 _ rfl; (with_reducible repeat (first | refine blk_drewN ?_ _ | refine blk_drew ?_ | refine blk_alloc ?_ _)); exact BK176.out) NB176_0.out (by simp)); replace HK := am_ (KeepBut.trans (hk2_ HK.out GW168.out GW176.out) hk (.inl rfl)); replace HI0 := am_ (hi); replace HB := am_ (hb); (try clear hb); (try clear hb2); (try clear hk); (try clear hi); obtain ⟨hcz88_0, hcz88_1, hcz88_2, hfz88_0, hfz88_1, hfz88_2⟩ := bc3_ BK176.out; have hnb89 := NB168_0.out; have hnc89 := NB0_168.out; obtain ⟨hcz90_0, hcz90_1, hcz90_2, hfz90_0, hfz90_1, hfz90_2⟩ := bc3_ BK168.out))
      refine bodyPost_ret (results_cell_row rfl _ _ gb168 30 #[.int .i64 t169, .int .i64 t170, .slice none 0 0] (0, 0) _ rfl (by (with_reducible repeat (first | refine blk_drewN ?_ _ | refine blk_drew ?_ | refine blk_alloc ?_ _)); refine blk_put (cs := #[.int .i64 t169, .int .i64 t170, .slice none 0 0]) ?_ 2 _ rfl; (with_reducible repeat (first | refine blk_drewN ?_ _ | refine blk_drew ?_ | refine blk_alloc ?_ _)); refine blk_put (cs := #[.int .i64 t169, .int .i64 0, .slice none 0 0]) ?_ 1 _ rfl; (with_reducible repeat (first | refine blk_drewN ?_ _ | refine blk_drew ?_ | refine blk_alloc ?_ _)); refine blk_put (cs := #[.int .i64 0, .int .i64 0, .slice none 0 0]) ?_ 0 _ rfl; (with_reducible repeat (first | refine blk_drewN ?_ _ | refine blk_drew ?_ | refine blk_alloc ?_ _)); refine blk_far ?_ NB168_176.out _; (with_reducible repeat (first | refine blk_drewN ?_ _ | refine blk_drew ?_ | refine blk_alloc ?_ _)); exact BK168.out) Try.underlying30 rfl (by kernel_rfl)) rfl ?_
      exact ⟨_, er_, by first | exact Kd.R_nil _ _ _ _ _ | exact Kd.N_nil _ _ _ _ _ | exact Kd.V_nil _ _ _ _ _ | exact Kd.Q_nil _ _ _ _ _ | exact Kd.S_nil _ _ _ _ _, by repeat (first | (with_reducible first | exact HI0.out | apply IsS94.alloc | apply IsS94.drewN | apply IsS94.drew | apply IsS94.set_1 | apply IsS94.set_2 | refine IsS94.far ?_ NB0_168.out _ | refine IsS94.far ?_ NB0_176.out _) | exact HI0.out), hb3_ HB.out (IsS94.ge HI0.out) GE168.out GE176.out, hk2_ HK.out GW168.out GW176.out⟩
     ·rw [if_neg c79] at H
      have c79b0 : (t177 == 4) = false := beq_eq_false_iff_ne.mpr c79
      have c79b1 : (t177 != 4) = true := bne_iff_ne.mpr c79
      by_cases c91 : t177 = 5
      ·rw [if_pos c91] at H
       have c91b0 : (t177 == 5) = true := beq_iff_eq.mpr c91
       have c91b1 : (t177 != 5) = false := bne_eq_false_iff_eq.mpr c91
       clear c91
       have H' := Aside0.mk H
       clear H
       go_enter Try.func37, Try.ntmps37
       go_wp2_with (first | ((with_reducible refine gate_dst (N := 2) rfl ?_); refine be_ (N := 2) (cs := #[.int .i64 0, .int .i64 0, .slice none 0 0]) (t := 30) ?_; intro gb168 hg w92 hbox hb; have n0_ := am_ (IsS94.below (by repeat (first | (with_reducible first | exact HI0.out | apply IsS94.alloc | apply IsS94.drewN | apply IsS94.drew | apply IsS94.set_1 | apply IsS94.set_2) | exact HI0.out)) hb); have n1_ := am_ (KeepBut.trans (hk_ HK.out) (KeepBut.of_below hb g none) (.inl rfl)); have n2_ := am_ (below_step (hb1_ HB.out (IsS94.ge HI0.out)) hb); have n3_ := am_ (hbox); have n4_ := am_ ((by rw [hg]; exact (keep_size (w := w) (g := g) (row := none) (hk_ HK.out)) : w.heap.size ≤ gb168)); have n5_ := am_ ((Nat.le_trans HW0.out (by rw [hg]; exact (keep_size (w := w) (g := g) (row := none) (hk_ HK.out)) : w.heap.size ≤ gb168) : w0.heap.size ≤ gb168)); have n6_ := am_ ((by rw [hg]; exact Nat.ne_of_lt (IsS94.lt (show IsS94 w0 _ g s0_0 s0_1 s0_2 from by repeat (first | (with_reducible first | exact HI0.out | apply IsS94.alloc | apply IsS94.drewN | apply IsS94.drew | apply IsS94.set_1 | apply IsS94.set_2) | exact HI0.out))) : g ≠ gb168)); have n7_ := am_ ((by rw [hg]; exact Nat.ne_of_gt (IsS94.lt (show IsS94 w0 _ g s0_0 s0_1 s0_2 from by repeat (first | (with_reducible first | exact HI0.out | apply IsS94.alloc | apply IsS94.drewN | apply IsS94.drew | apply IsS94.set_1 | apply IsS94.set_2) | exact HI0.out))) : gb168 ≠ g)); clear HI0; clear HK; clear HB; have HI0 := n0_; have HK := n1_; have HB := n2_; have BK168 := n3_; have GW168 := n4_; have GE168 := n5_; have NB0_168 := n6_; have NB168_0 := n7_; clear n0_ n1_ n2_ n3_ n4_ n5_ n6_ n7_; clear hb hbox hg) | ((with_reducible refine gate_callee (f := 84) rfl ?_); refine gl_ Try.func84 #[.pointer (some ⟨g, 0, none⟩)] ?_; (with_reducible refine (spec_l13DrawPlan.calls k g s0_0 s0_1 s0_2 t169 t170 t171 t174 t175 w0 _ ?side1 ?side2 A2.out).mono ?_); (case side1 => repeat (first | (with_reducible first | exact HI0.out | apply IsS94.alloc | apply IsS94.drewN | apply IsS94.drew | apply IsS94.set_1 | apply IsS94.set_2 | refine IsS94.far ?_ NB0_168.out _) | exact HI0.out)); (case side2 => exact hb2_ HB.out (IsS94.ge HI0.out) GE168.out); rintro e w93 ⟨v172, rfl, ho0, hi, hb, hk⟩; refine ⟨_, rfl, ?_⟩; have HO173 := am_ (Kd.R_lower ho0 (keep_size (w := w) (g := g) (row := none) (hk1_ HK.out GW168.out))); replace BK168 := am_ (KeepBut.blk hk (g' := gb168) (o := .cells #[.int .i64 0, .int .i64 0, .slice none 0 0] 30 (0, 0)) (bk_ BK168.out) NB168_0.out (by simp)); replace HK := am_ (KeepBut.trans (hk1_ HK.out GW168.out) hk (.inl rfl)); replace HI0 := am_ (hi); replace HB := am_ (hb); (try clear hb); (try clear hb2); (try clear hk); (try clear hi); (try clear ho0)) | ((with_reducible refine gate_dst (N := 3) rfl ?_); refine be_ (N := 3) (cs := #[.int .i64 0, .int .i64 0, .slice none 0 0]) (t := 30) ?_; intro gb176 hg w94 hbox hb; have n0_ := am_ (Kd.R_below (by (with_reducible repeat (first | apply Kd.R_alloc | apply Kd.R_drewN | apply Kd.R_drew)); exact HO173.out) hb); have n1_ := am_ (IsS94.below (by repeat (first | (with_reducible first | exact HI0.out | apply IsS94.alloc | apply IsS94.drewN | apply IsS94.drew | apply IsS94.set_1 | apply IsS94.set_2 | refine IsS94.far ?_ NB0_168.out _) | exact HI0.out)) hb); have n2_ := am_ (bb_ BK168.out hb); have n3_ := am_ (KeepBut.trans (hk1_ HK.out GW168.out) (KeepBut.of_below hb g none) (.inl rfl)); have n4_ := am_ (below_step (hb2_ HB.out (IsS94.ge HI0.out) GE168.out) hb); have n5_ := am_ (hbox); have n6_ := am_ ((by rw [hg]; exact (keep_size (w := w) (g := g) (row := none) (hk1_ HK.out GW168.out)) : w.heap.size ≤ gb176)); have n7_ := am_ ((Nat.le_trans HW0.out (by rw [hg]; exact (keep_size (w := w) (g := g) (row := none) (hk1_ HK.out GW168.out)) : w.heap.size ≤ gb176) : w0.heap.size ≤ gb176)); have n8_ := am_ ((bl_ hg BK168.out : gb168 ≠ gb176)); have n9_ := am_ ((bg_ hg BK168.out : gb176 ≠ gb168)); have n10_ := am_ ((by rw [hg]; exact Nat.ne_of_lt (IsS94.lt (show IsS94 w0 _ g s0_0 t174 t175 from by repeat (first | (with_reducible first | exact HI0.out | apply IsS94.alloc | apply IsS94.drewN | apply IsS94.drew | apply IsS94.set_1 | apply IsS94.set_2 | refine IsS94.far ?_ NB0_168.out _) | exact HI0.out))) : g ≠ gb176)); have n11_ := am_ ((by rw [hg]; exact Nat.ne_of_gt (IsS94.lt (show IsS94 w0 _ g s0_0 t174 t175 from by repeat (first | (with_reducible first | exact HI0.out | apply IsS94.alloc | apply IsS94.drewN | apply IsS94.drew | apply IsS94.set_1 | apply IsS94.set_2 | refine IsS94.far ?_ NB0_168.out _) | exact HI0.out))) : gb176 ≠ g)); clear HO173; clear HI0; clear BK168; clear HK; clear HB; have HO173 := n0_; have HI0 := n1_; have BK168 := n2_; have HK := n3_; have HB := n4_; have BK176 := n5_; have GW176 := n6_; have GE176 := n7_; have NB168_176 := n8_; have NB176_168 := n9_; have NB0_176 := n10_; have NB176_0 := n11_; clear n0_ n1_ n2_ n3_ n4_ n5_ n6_ n7_ n8_ n9_ n10_ n11_; clear hb hbox hg; have hnb95 := NB176_168.out; have hnc95 := NB168_176.out; have hnb96 := NB176_0.out; have hnc96 := NB0_176.out; obtain ⟨hcz97_0, hcz97_1, hcz97_2, hfz97_0, hfz97_1, hfz97_2⟩ := bc3_ BK176.out; obtain ⟨Ao98, co98, eo98⟩ := Kd.R_slice HO173.out; subst eo98) | ((with_reducible refine gate_callee (f := 41) rfl ?_); refine gl_ Try.func41 #[.pointer (some ⟨g, 0, none⟩), .int .i64 25] ?_; (with_reducible refine (spec_l1Below.calls g s0_0 t174 t175 25 t177 t178 t179 w0 _ ?side1 ?side2 A3.out).mono ?_); (case side1 => repeat (first | (with_reducible first | exact HI0.out | apply IsS94.alloc | apply IsS94.drewN | apply IsS94.drew | apply IsS94.set_1 | apply IsS94.set_2 | refine IsS94.far ?_ NB0_168.out _ | refine IsS94.far ?_ NB0_176.out _) | exact HI0.out)); (case side2 => exact hb3_ HB.out (IsS94.ge HI0.out) GE168.out GE176.out); rintro e w99 ⟨rfl, hi, hb, hk⟩; refine ⟨_, rfl, ?_⟩; replace BK168 := am_ (KeepBut.blk hk (g' := gb168) (o := .cells #[.int .i64 0, .int .i64 0, .slice none 0 0] 30 (0, 0)) (by (with_reducible repeat (first | refine blk_drewN ?_ _ | refine blk_drew ?_ | refine blk_alloc ?_ _)); refine blk_far ?_ NB168_176.out _; (with_reducible repeat (first | refine blk_drewN ?_ _ | refine blk_drew ?_ | refine blk_alloc ?_ _)); refine blk_far ?_ NB168_176.out _; (with_reducible repeat (first | refine blk_drewN ?_ _ | refine blk_drew ?_ | refine blk_alloc ?_ _)); refine blk_far ?_ NB168_176.out _; (with_reducible repeat (first | refine blk_drewN ?_ _ | refine blk_drew ?_ | refine blk_alloc ?_ _)); exact BK168.out) NB168_0.out (by simp)); replace HO173 := am_ (Kd.R_mono (Kd.R_keep (IsS94.apart (show IsS94 w0 _ g s0_0 t174 t175 from by repeat (first | (with_reducible first | exact HI0.out | apply IsS94.alloc | apply IsS94.drewN | apply IsS94.drew | apply IsS94.set_1 | apply IsS94.set_2 | refine IsS94.far ?_ NB0_168.out _ | refine IsS94.far ?_ NB0_176.out _) | exact HI0.out)) (by (with_reducible repeat (first | apply Kd.R_alloc | apply Kd.R_drewN | apply Kd.R_drew)); exact (Kd.R_mono (Kd.R_far (p := ⟨gb176, 2, none⟩) (Kd.R_far (p := ⟨gb176, 1, none⟩) (Kd.R_far (p := ⟨gb176, 0, none⟩) (Kd.R_types HO173.out BK176.out (by decide)) (fun _ hk => hk.2) (.int .i64 t169)) (fun _ hk => hk.2) (.int .i64 t170)) (fun _ hk => hk.2) (.slice Ao98 t171.length co98)) (fun _ h_ => h_.1))) (by decide)) hk (fun _ h => h.2)) (fun _ h => h.1)); replace BK176 := am_ (KeepBut.blk hk (g' := gb176) (o := .cells #[.int .i64 t169, .int .i64 t170, .slice Ao98 t171.length co98] 30 (0, 0)) (by (with_reducible repeat (first | refine blk_drewN ?_ _ | refine blk_drew ?_ | refine blk_alloc ?_ _)); refine blk_put (cs := #[.int .i64 t169, .int .i64 t170, .slice none 0 0]) ?_ 2 _ rfl; (with_reducible repeat (first | refine blk_drewN ?_ _ | refine blk_drew ?_ | refine blk_alloc ?_ _)); refine blk_put (cs := #[.int .i64 t169, .int .i64 0, .slice none 0 0]) ?_ 1 _ rfl; (with_reducible repeat (first | refine blk_drewN ?_ _ | refine blk_drew ?_ | refine blk_alloc ?_ _)); refine blk_put (cs := #[.int .i64 0, .int .i64 0, .slice none 0 0]) ?_ 0 _ rfl; (with_reducible repeat (first | refine blk_drewN ?_ _ | refine blk_drew ?_ | refine blk_alloc ?_ _)); exact BK176.out) NB176_0.out (by simp)); replace HK := am_ (KeepBut.trans (hk2_ HK.out GW168.out GW176.out) hk (.inl rfl)); replace HI0 := am_ (hi); replace HB := am_ (hb); (try clear hb); (try clear hb2); (try clear hk); (try clear hi)))
       go_loopg [] k (fun kq w' => ∃ (x177002_1 : List (S42)) (u177002 : Value), Aside0 (spec_l13DrawAny.l0 kq s0_0 t178 t179 t169 t170 x177002_1 = some (r1, r2, r3, r4, r5)) ∧ Aside0 (kq ≤ k) ∧ Aside0 (Kd.R k42 42 w' w.heap.size (fun _ => True) u177002 x177002_1) ∧ Aside0 (w'.heap[gb168]? = some (.cells #[.int .i64 0, .int .i64 0, (.slice none 0 0)] 30 (0, 0))) ∧ Aside0 (w'.heap[gb176]? = some (.cells #[.int .i64 t169, .int .i64 t170, u177002] 30 (0, 0))) ∧ Aside0 (IsS94 w0 w' g s0_0 t178 t179) ∧ Aside0 (KeepBut w w' g none) ∧ Aside0 (Below w0.heap.size w0 w'))
       case atStart => exact ⟨(t171), (.slice Ao98 t171.length co98), H', ⟨Nat.le_refl _⟩, ⟨by (with_reducible repeat (first | apply Kd.R_alloc | apply Kd.R_drewN | apply Kd.R_drew)); exact HO173.out⟩, ⟨bk_ BK168.out⟩, ⟨bk_ BK176.out⟩, ⟨by repeat (first | (with_reducible first | exact HI0.out | apply IsS94.alloc | apply IsS94.drewN | apply IsS94.drew | apply IsS94.set_1 | apply IsS94.set_2 | refine IsS94.far ?_ NB0_168.out _ | refine IsS94.far ?_ NB0_176.out _) | exact HI0.out)⟩, ⟨hk2_ HK.out GW168.out GW176.out⟩, ⟨hb3_ HB.out (IsS94.ge HI0.out) GE168.out GE176.out⟩⟩
       case round =>
        clear H'
        try clear c1
        try clear c2
        try clear p2
        try clear c3
        try clear p3
        try clear q3
        try clear hx3
        try clear qi3
        try clear hf3
        try clear c4
        try clear c4b0
        try clear c4b1
        try clear c5
        try clear c6
        try clear p6
        try clear q6
        try clear hx6
        try clear qi6
        try clear hf6
        try clear c7
        try clear c8
        try clear c9
        try clear c10
        try clear c16
        try clear c18
        try clear c18b0
        try clear c18b1
        try clear c23
        try clear c24
        try clear c33
        try clear c35
        try clear c35b0
        try clear c35b1
        try clear c37
        try clear c37b0
        try clear c37b1
        try clear c38
        try clear p38
        try clear q38
        try clear hx38
        try clear qi38
        try clear hf38
        try clear c41
        try clear c42
        try clear c43
        try clear c44
        try clear c52
        try clear c55
        try clear c57
        try clear c57b0
        try clear c57b1
        try clear c59
        try clear c59b0
        try clear c59b1
        try clear c60
        try clear p60
        try clear q60
        try clear hx60
        try clear qi60
        try clear hf60
        try clear c64
        try clear c65
        try clear c74
        try clear c77
        try clear c79
        try clear c79b0
        try clear c79b1
        try clear c83
        try clear c84
        try clear c85
        try clear c89
        try clear c91
        try clear c91b0
        try clear c91b1
        try clear c95
        try clear c96
        try clear hcz11_0
        try clear hcz11_1
        try clear hcz11_2
        try clear hcz15_0
        try clear hcz15_1
        try clear hcz15_2
        try clear hcz17_0
        try clear hcz17_1
        try clear hcz17_2
        try clear hcz25_0
        try clear hcz25_1
        try clear hcz25_2
        try clear hcz32_0
        try clear hcz32_1
        try clear hcz32_2
        try clear hcz34_0
        try clear hcz34_1
        try clear hcz34_2
        try clear hcz44_0
        try clear hcz44_1
        try clear hcz44_2
        try clear hcz54_0
        try clear hcz54_1
        try clear hcz54_2
        try clear hcz56_0
        try clear hcz56_1
        try clear hcz56_2
        try clear hcz66_0
        try clear hcz66_1
        try clear hcz66_2
        try clear hcz76_0
        try clear hcz76_1
        try clear hcz76_2
        try clear hcz78_0
        try clear hcz78_1
        try clear hcz78_2
        try clear hcz85_0
        try clear hcz85_1
        try clear hcz85_2
        try clear hcz88_0
        try clear hcz88_1
        try clear hcz88_2
        try clear hcz90_0
        try clear hcz90_1
        try clear hcz90_2
        try clear hcz97_0
        try clear hcz97_1
        try clear hcz97_2
        try clear hfz11_0
        try clear hfz11_1
        try clear hfz11_2
        try clear hfz15_0
        try clear hfz15_1
        try clear hfz15_2
        try clear hfz17_0
        try clear hfz17_1
        try clear hfz17_2
        try clear hfz25_0
        try clear hfz25_1
        try clear hfz25_2
        try clear hfz32_0
        try clear hfz32_1
        try clear hfz32_2
        try clear hfz34_0
        try clear hfz34_1
        try clear hfz34_2
        try clear hfz44_0
        try clear hfz44_1
        try clear hfz44_2
        try clear hfz54_0
        try clear hfz54_1
        try clear hfz54_2
        try clear hfz56_0
        try clear hfz56_1
        try clear hfz56_2
        try clear hfz66_0
        try clear hfz66_1
        try clear hfz66_2
        try clear hfz76_0
        try clear hfz76_1
        try clear hfz76_2
        try clear hfz78_0
        try clear hfz78_1
        try clear hfz78_2
        try clear hfz85_0
        try clear hfz85_1
        try clear hfz85_2
        try clear hfz88_0
        try clear hfz88_1
        try clear hfz88_2
        try clear hfz90_0
        try clear hfz90_1
        try clear hfz90_2
        try clear hfz97_0
        try clear hfz97_1
        try clear hfz97_2
        try clear hx38_0
        try clear hx38_1
        try clear hx60_0
        try clear hx60_1
        try clear p38
        try clear p60
        try clear q38
        try clear q60
        obtain ⟨x177002_1, u177002, HA, HK1, HO_177002, BK168, BK176, HI0, HK, HB⟩ := hrel
        cases gk with
        | zero => exact absurd HA.out (by simp [spec_l13DrawAny.l0])
        | succ k1 =>
         have H := HA.out
         clear HA
         simp only [spec_l13DrawAny.l0] at H
         by_cases c100 : (x177002_1.length : Int) ≤ 12
         ·rw [if_pos c100] at H
          have c100b0 : decide ((x177002_1.length : Int) ≤ 12) = true := decide_eq_true c100
          have c100b1 : decide (x177002_1.length ≤ 12) = true := decide_eq_true (by omega)
          clear c100
          by_cases c101 : x177002_1.length < 8796093022208
          ·rw [if_pos c101] at H
           have LMc101 := Aside0.mk c101
           clear c101
           obtain ⟨y203, hy203⟩ : ∃ y_ : List (S42), y_ = (x177002_1 ++ [(⟨0, 1⟩ : S42)]) := ⟨_, rfl⟩
           replace H : (spec_l13DrawAny.l0 k1 s0_0 t178 t179 t169 t170 y203) = some (r1, r2, r3, r4, r5) := by first | (rw [hy203]; with_reducible exact H) | (have H2_ := (Option.bind_some _ _).symm.trans H; rw [hy203]; with_reducible exact H2_) | (have H2_ := (Option.bind_some _ _).symm.trans H; with_reducible exact H2_) | with_reducible exact H | (rw [hy203]; exact H) | exact H
           have Ny203 := Aside0.mk hy203
           clear hy203
           have H' := Aside0.mk H
           clear H
           have hnb102 := NB176_168.out
           have hnc102 := NB168_176.out
           have hnb103 := NB176_0.out
           have hnc103 := NB0_176.out
           have hcz104_0 := bc_ BK176.out 0 (.int .i64 t169) rfl
           have hcz104_1 := bc_ BK176.out 1 (.int .i64 t170) rfl
           have hcz104_2 := bc_ BK176.out 2 (u177002) rfl
           have hfz104_0 := blk_frozen BK176.out 0
           have hfz104_1 := blk_frozen BK176.out 1
           have hfz104_2 := blk_frozen BK176.out 2
           obtain ⟨Ao105, co105, eo105⟩ := Kd.R_slice HO_177002.out
           subst eo105
           go_wp2_with (first | ((with_reducible refine gate_builtin (b := .append) (xs := #[.tmp 47, .tmp 49]) rfl ?_); at_builtin; refine Kd.R_append k42 w.heap.size rfl (.tmp 47) (.tmp 49) 28 42 (.agg #[(.int .i64 0), (.int .i64 0)]) 16 rfl Try.underlying28 info42 rfl (by decide) (by omega) (.slice Ao105 x177002_1.length co105) x177002_1 (⟨0, 1⟩ : S42) [.int .i64 0, .int .i64 1] (fun _ => True) (fun _ => False) rfl rfl ?aP (fun _ hk => hk.elim) ?aF ?aO (Below.refl _ _) ?aS ?aL ?_; (case aP => exact k42_mkM _ _ _ (⟨0, 1⟩ : S42)); (case aF => exact (fun _ _ => trivial)); (case aO => exact (by (with_reducible repeat (first | apply Kd.R_alloc | apply Kd.R_drewN | apply Kd.R_drew)); exact HO_177002.out)); (case aS => exact (keep_size (w := w) (g := g) (row := none) (hk2_ HK.out GW168.out GW176.out))); (case aL => have := LMc101.out; omega); intro v204 w106 ho hb hg hat; rw [← Ny203.out] at ho; have n0_ := am_ (blk_grown (g := gb168) (o := .cells #[.int .i64 0, .int .i64 0, .slice none 0 0] 30 (0, 0)) (bk_ BK168.out) hg (Kd.R_ne HO_177002.out BK168.out (by decide))); have n1_ := am_ (blk_grown (g := gb176) (o := .cells #[.int .i64 t169, .int .i64 t170, .slice Ao105 x177002_1.length co105] 30 (0, 0)) (bk_ BK176.out) hg (Kd.R_ne HO_177002.out BK176.out (by decide))); have n2_ := am_ (IsS94.grown (by repeat (first | (with_reducible first | exact HI0.out | apply IsS94.alloc | apply IsS94.drewN | apply IsS94.drew | apply IsS94.set_1 | apply IsS94.set_2 | refine IsS94.far ?_ NB0_168.out _ | refine IsS94.far ?_ NB0_176.out _) | exact HI0.out)) hg (IsS94.own_ne HI0.out HO_177002.out (by decide))); have n3_ := am_ (below_weaken (hb3_ HB.out (IsS94.ge HI0.out) GE168.out GE176.out) HL.out hb); have n4_ := am_ (KeepBut.trans (hk2_ HK.out GW168.out GW176.out) (KeepBut.of_grown hg g) (Kd.R_base2 HO_177002.out)); have n5_ := am_ (ho); clear BK168; clear BK176; clear HI0; clear HB; clear HK; clear HO_177002; have BK168 := n0_; have BK176 := n1_; have HI0 := n2_; have HB := n3_; have HK := n4_; have HO205 := n5_; clear n0_ n1_ n2_ n3_ n4_ n5_; clear ho hb hg hat; obtain ⟨Ao107, co107, eo107⟩ := Kd.R_slice HO205.out; subst eo107; obtain ⟨hcz108_0, hcz108_1, hcz108_2, hfz108_0, hfz108_1, hfz108_2⟩ := bc3_ BK176.out))
           go_roundg k1
           case measure => have := HK1.out; omega
           case rel => exact ⟨(y203), (.slice Ao107 y203.length co107), H', ⟨by have := HK1.out; omega⟩, ⟨by (with_reducible repeat (first | apply Kd.R_alloc | apply Kd.R_drewN | apply Kd.R_drew)); exact Kd.R_mono (Kd.R_far (p := ⟨gb176, 2, none⟩) (Kd.R_types HO205.out BK176.out (by decide)) (fun _ hk => hk.2) (.slice Ao107 y203.length co107)) (fun _ hk => trivial)⟩, ⟨by (with_reducible repeat (first | refine blk_drewN ?_ _ | refine blk_drew ?_ | refine blk_alloc ?_ _)); refine blk_far ?_ NB168_176.out _; (with_reducible repeat (first | refine blk_drewN ?_ _ | refine blk_drew ?_ | refine blk_alloc ?_ _)); exact BK168.out⟩, ⟨by (with_reducible repeat (first | refine blk_drewN ?_ _ | refine blk_drew ?_ | refine blk_alloc ?_ _)); refine blk_put (cs := #[.int .i64 t169, .int .i64 t170, .slice Ao105 x177002_1.length co105]) ?_ 2 _ rfl; (with_reducible repeat (first | refine blk_drewN ?_ _ | refine blk_drew ?_ | refine blk_alloc ?_ _)); exact BK176.out⟩, ⟨by repeat (first | (with_reducible first | exact HI0.out | apply IsS94.alloc | apply IsS94.drewN | apply IsS94.drew | apply IsS94.set_1 | apply IsS94.set_2 | refine IsS94.far ?_ NB0_168.out _ | refine IsS94.far ?_ NB0_176.out _) | exact HI0.out)⟩, ⟨hk2_ HK.out GW168.out GW176.out⟩, ⟨hb3_ HB.out (IsS94.ge HI0.out) GE168.out GE176.out⟩⟩
          ·rw [if_neg c101] at H
           exact absurd H (by simp)
         ·rw [if_neg c100] at H
          have c100b0 : decide ((x177002_1.length : Int) ≤ 12) = false := decide_eq_false c100
          have c100b1 : decide (x177002_1.length ≤ 12) = false := decide_eq_false (by omega)
          clear c100
          simp only [Option.some.injEq, Prod.mk.injEq] at H
          obtain ⟨rfl, rfl, rfl, rfl, rfl⟩ := H
          have hnb109 := NB176_168.out
          have hnc109 := NB168_176.out
          have hnb110 := NB176_0.out
          have hnc110 := NB0_176.out
          have hcz111_0 := bc_ BK176.out 0 (.int .i64 t169) rfl
          have hcz111_1 := bc_ BK176.out 1 (.int .i64 t170) rfl
          have hcz111_2 := bc_ BK176.out 2 (u177002) rfl
          have hfz111_0 := blk_frozen BK176.out 0
          have hfz111_1 := blk_frozen BK176.out 1
          have hfz111_2 := blk_frozen BK176.out 2
          obtain ⟨Ao112, co112, eo112⟩ := Kd.R_slice HO_177002.out
          subst eo112
          have hnb113 := NB168_0.out
          have hnc113 := NB0_168.out
          have hcz114_0 := bc_ BK168.out 0 (.int .i64 0) rfl
          have hcz114_1 := bc_ BK168.out 1 (.int .i64 0) rfl
          have hcz114_2 := bc_ BK168.out 2 (.slice none 0 0) rfl
          have hfz114_0 := blk_frozen BK168.out 0
          have hfz114_1 := blk_frozen BK168.out 1
          have hfz114_2 := blk_frozen BK168.out 2
          go_wp2
          refine bodyPost_ret (results_cell_row rfl _ _ gb168 30 #[.int .i64 t169, .int .i64 t170, .slice Ao112 x177002_1.length co112] (0, 0) _ rfl (by (with_reducible repeat (first | refine blk_drewN ?_ _ | refine blk_drew ?_ | refine blk_alloc ?_ _)); refine blk_put (cs := #[.int .i64 t169, .int .i64 t170, .slice none 0 0]) ?_ 2 _ rfl; (with_reducible repeat (first | refine blk_drewN ?_ _ | refine blk_drew ?_ | refine blk_alloc ?_ _)); refine blk_put (cs := #[.int .i64 t169, .int .i64 0, .slice none 0 0]) ?_ 1 _ rfl; (with_reducible repeat (first | refine blk_drewN ?_ _ | refine blk_drew ?_ | refine blk_alloc ?_ _)); refine blk_put (cs := #[.int .i64 0, .int .i64 0, .slice none 0 0]) ?_ 0 _ rfl; (with_reducible repeat (first | refine blk_drewN ?_ _ | refine blk_drew ?_ | refine blk_alloc ?_ _)); exact BK168.out) Try.underlying30 rfl (by kernel_rfl)) rfl ?_
          exact ⟨_, er_, by (with_reducible repeat (first | apply Kd.R_alloc | apply Kd.R_drewN | apply Kd.R_drew)); exact Kd.R_mono (Kd.R_far (p := ⟨gb168, 2, none⟩) (Kd.R_far (p := ⟨gb168, 1, none⟩) (Kd.R_far (p := ⟨gb168, 0, none⟩) (Kd.R_types HO_177002.out BK168.out (by decide)) (fun _ hk => hk.2) (.int .i64 t169)) (fun _ hk => hk.2) (.int .i64 t170)) (fun _ hk => hk.2) (.slice Ao112 x177002_1.length co112)) (fun _ hk => trivial), by repeat (first | (with_reducible first | exact HI0.out | apply IsS94.alloc | apply IsS94.drewN | apply IsS94.drew | apply IsS94.set_1 | apply IsS94.set_2 | refine IsS94.far ?_ NB0_168.out _ | refine IsS94.far ?_ NB0_176.out _) | exact HI0.out), hb3_ HB.out (IsS94.ge HI0.out) GE168.out GE176.out, hk2_ HK.out GW168.out GW176.out⟩
      ·rw [if_neg c91] at H
       have c91b0 : (t177 == 5) = false := beq_eq_false_iff_ne.mpr c91
       have c91b1 : (t177 != 5) = true := bne_iff_ne.mpr c91
       simp only [Option.some.injEq, Prod.mk.injEq] at H
       obtain ⟨rfl, rfl, rfl, rfl, rfl⟩ := H
       go_enter Try.func37, Try.ntmps37
       go_wp2_with (first | ((with_reducible refine gate_dst (N := 2) rfl ?_); refine be_ (N := 2) (cs := #[.int .i64 0, .int .i64 0, .slice none 0 0]) (t := 30) ?_; intro gb168 hg w115 hbox hb; have n0_ := am_ (IsS94.below (by repeat (first | (with_reducible first | exact HI0.out | apply IsS94.alloc | apply IsS94.drewN | apply IsS94.drew | apply IsS94.set_1 | apply IsS94.set_2) | exact HI0.out)) hb); have n1_ := am_ (KeepBut.trans (hk_ HK.out) (KeepBut.of_below hb g none) (.inl rfl)); have n2_ := am_ (below_step (hb1_ HB.out (IsS94.ge HI0.out)) hb); have n3_ := am_ (hbox); have n4_ := am_ ((by rw [hg]; exact (keep_size (w := w) (g := g) (row := none) (hk_ HK.out)) : w.heap.size ≤ gb168)); have n5_ := am_ ((Nat.le_trans HW0.out (by rw [hg]; exact (keep_size (w := w) (g := g) (row := none) (hk_ HK.out)) : w.heap.size ≤ gb168) : w0.heap.size ≤ gb168)); have n6_ := am_ ((by rw [hg]; exact Nat.ne_of_lt (IsS94.lt (show IsS94 w0 _ g s0_0 s0_1 s0_2 from by repeat (first | (with_reducible first | exact HI0.out | apply IsS94.alloc | apply IsS94.drewN | apply IsS94.drew | apply IsS94.set_1 | apply IsS94.set_2) | exact HI0.out))) : g ≠ gb168)); have n7_ := am_ ((by rw [hg]; exact Nat.ne_of_gt (IsS94.lt (show IsS94 w0 _ g s0_0 s0_1 s0_2 from by repeat (first | (with_reducible first | exact HI0.out | apply IsS94.alloc | apply IsS94.drewN | apply IsS94.drew | apply IsS94.set_1 | apply IsS94.set_2) | exact HI0.out))) : gb168 ≠ g)); clear HI0; clear HK; clear HB; have HI0 := n0_; have HK := n1_; have HB := n2_; have BK168 := n3_; have GW168 := n4_; have GE168 := n5_; have NB0_168 := n6_; have NB168_0 := n7_; clear n0_ n1_ n2_ n3_ n4_ n5_ n6_ n7_; clear hb hbox hg) | ((with_reducible refine gate_callee (f := 84) rfl ?_); refine gl_ Try.func84 #[.pointer (some ⟨g, 0, none⟩)] ?_; (with_reducible refine (spec_l13DrawPlan.calls k g s0_0 s0_1 s0_2 t169 t170 t171 t174 t175 w0 _ ?side1 ?side2 A2.out).mono ?_); (case side1 => repeat (first | (with_reducible first | exact HI0.out | apply IsS94.alloc | apply IsS94.drewN | apply IsS94.drew | apply IsS94.set_1 | apply IsS94.set_2 | refine IsS94.far ?_ NB0_168.out _) | exact HI0.out)); (case side2 => exact hb2_ HB.out (IsS94.ge HI0.out) GE168.out); rintro e w116 ⟨v172, rfl, ho0, hi, hb, hk⟩; refine ⟨_, rfl, ?_⟩; have HO173 := am_ (Kd.R_lower ho0 (keep_size (w := w) (g := g) (row := none) (hk1_ HK.out GW168.out))); replace BK168 := am_ (KeepBut.blk hk (g' := gb168) (o := .cells #[.int .i64 0, .int .i64 0, .slice none 0 0] 30 (0, 0)) (bk_ BK168.out) NB168_0.out (by simp)); replace HK := am_ (KeepBut.trans (hk1_ HK.out GW168.out) hk (.inl rfl)); replace HI0 := am_ (hi); replace HB := am_ (hb); (try clear hb); (try clear hb2); (try clear hk); (try clear hi); (try clear ho0)) | ((with_reducible refine gate_dst (N := 3) rfl ?_); refine be_ (N := 3) (cs := #[.int .i64 0, .int .i64 0, .slice none 0 0]) (t := 30) ?_; intro gb176 hg w117 hbox hb; have n0_ := am_ (Kd.R_below (by (with_reducible repeat (first | apply Kd.R_alloc | apply Kd.R_drewN | apply Kd.R_drew)); exact HO173.out) hb); have n1_ := am_ (IsS94.below (by repeat (first | (with_reducible first | exact HI0.out | apply IsS94.alloc | apply IsS94.drewN | apply IsS94.drew | apply IsS94.set_1 | apply IsS94.set_2 | refine IsS94.far ?_ NB0_168.out _) | exact HI0.out)) hb); have n2_ := am_ (bb_ BK168.out hb); have n3_ := am_ (KeepBut.trans (hk1_ HK.out GW168.out) (KeepBut.of_below hb g none) (.inl rfl)); have n4_ := am_ (below_step (hb2_ HB.out (IsS94.ge HI0.out) GE168.out) hb); have n5_ := am_ (hbox); have n6_ := am_ ((by rw [hg]; exact (keep_size (w := w) (g := g) (row := none) (hk1_ HK.out GW168.out)) : w.heap.size ≤ gb176)); have n7_ := am_ ((Nat.le_trans HW0.out (by rw [hg]; exact (keep_size (w := w) (g := g) (row := none) (hk1_ HK.out GW168.out)) : w.heap.size ≤ gb176) : w0.heap.size ≤ gb176)); have n8_ := am_ ((bl_ hg BK168.out : gb168 ≠ gb176)); have n9_ := am_ ((bg_ hg BK168.out : gb176 ≠ gb168)); have n10_ := am_ ((by rw [hg]; exact Nat.ne_of_lt (IsS94.lt (show IsS94 w0 _ g s0_0 t174 t175 from by repeat (first | (with_reducible first | exact HI0.out | apply IsS94.alloc | apply IsS94.drewN | apply IsS94.drew | apply IsS94.set_1 | apply IsS94.set_2 | refine IsS94.far ?_ NB0_168.out _) | exact HI0.out))) : g ≠ gb176)); have n11_ := am_ ((by rw [hg]; exact Nat.ne_of_gt (IsS94.lt (show IsS94 w0 _ g s0_0 t174 t175 from by repeat (first | (with_reducible first | exact HI0.out | apply IsS94.alloc | apply IsS94.drewN | apply IsS94.drew | apply IsS94.set_1 | apply IsS94.set_2 | refine IsS94.far ?_ NB0_168.out _) | exact HI0.out))) : gb176 ≠ g)); clear HO173; clear HI0; clear BK168; clear HK; clear HB; have HO173 := n0_; have HI0 := n1_; have BK168 := n2_; have HK := n3_; have HB := n4_; have BK176 := n5_; have GW176 := n6_; have GE176 := n7_; have NB168_176 := n8_; have NB176_168 := n9_; have NB0_176 := n10_; have NB176_0 := n11_; clear n0_ n1_ n2_ n3_ n4_ n5_ n6_ n7_ n8_ n9_ n10_ n11_; clear hb hbox hg; have hnb118 := NB176_168.out; have hnc118 := NB168_176.out; have hnb119 := NB176_0.out; have hnc119 := NB0_176.out; obtain ⟨hcz120_0, hcz120_1, hcz120_2, hfz120_0, hfz120_1, hfz120_2⟩ := bc3_ BK176.out; obtain ⟨Ao121, co121, eo121⟩ := Kd.R_slice HO173.out; subst eo121) | ((with_reducible refine gate_callee (f := 41) rfl ?_); refine gl_ Try.func41 #[.pointer (some ⟨g, 0, none⟩), .int .i64 25] ?_; (with_reducible refine (spec_l1Below.calls g s0_0 t174 t175 25 t177 t178 t179 w0 _ ?side1 ?side2 A3.out).mono ?_); (case side1 => repeat (first | (with_reducible first | exact HI0.out | apply IsS94.alloc | apply IsS94.drewN | apply IsS94.drew | apply IsS94.set_1 | apply IsS94.set_2 | refine IsS94.far ?_ NB0_168.out _ | refine IsS94.far ?_ NB0_176.out _) | exact HI0.out)); (case side2 => exact hb3_ HB.out (IsS94.ge HI0.out) GE168.out GE176.out); rintro e w122 ⟨rfl, hi, hb, hk⟩; refine ⟨_, rfl, ?_⟩; replace BK168 := am_ (KeepBut.blk hk (g' := gb168) (o := .cells #[.int .i64 0, .int .i64 0, .slice none 0 0] 30 (0, 0)) (by (with_reducible repeat (first | refine blk_drewN ?_ _ | refine blk_drew ?_ | refine blk_alloc ?_ _)); refine blk_far ?_ NB168_176.out _; (with_reducible repeat (first | refine blk_drewN ?_ _ | refine blk_drew ?_ | refine blk_alloc ?_ _)); refine blk_far ?_ NB168_176.out _; (with_reducible repeat (first | refine blk_drewN ?_ _ | refine blk_drew ?_ | refine blk_alloc ?_ _)); refine blk_far ?_ NB168_176.out _; (with_reducible repeat (first | refine blk_drewN ?_ _ | refine blk_drew ?_ | refine blk_alloc ?_ _)); exact BK168.out) NB168_0.out (by simp)); replace HO173 := am_ (Kd.R_mono (Kd.R_keep (IsS94.apart (show IsS94 w0 _ g s0_0 t174 t175 from by repeat (first | (with_reducible first | exact HI0.out | apply IsS94.alloc | apply IsS94.drewN | apply IsS94.drew | apply IsS94.set_1 | apply IsS94.set_2 | refine IsS94.far ?_ NB0_168.out _ | refine IsS94.far ?_ NB0_176.out _) | exact HI0.out)) (by (with_reducible repeat (first | apply Kd.R_alloc | apply Kd.R_drewN | apply Kd.R_drew)); exact (Kd.R_mono (Kd.R_far (p := ⟨gb176, 2, none⟩) (Kd.R_far (p := ⟨gb176, 1, none⟩) (Kd.R_far (p := ⟨gb176, 0, none⟩) (Kd.R_types HO173.out BK176.out (by decide)) (fun _ hk => hk.2) (.int .i64 t169)) (fun _ hk => hk.2) (.int .i64 t170)) (fun _ hk => hk.2) (.slice Ao121 t171.length co121)) (fun _ h_ => h_.1))) (by decide)) hk (fun _ h => h.2)) (fun _ h => h.1)); replace BK176 := am_ (KeepBut.blk hk (g' := gb176) (o := .cells #[.int .i64 t169, .int .i64 t170, .slice Ao121 t171.length co121] 30 (0, 0)) (by (with_reducible repeat (first | refine blk_drewN ?_ _ | refine blk_drew ?_ | refine blk_alloc ?_ _)); refine blk_put (cs := #[.int .i64 t169, .int .i64 t170, .slice none 0 0]) ?_ 2 _ rfl; (with_reducible repeat (first | refine blk_drewN ?_ _ | refine blk_drew ?_ | refine blk_alloc ?_ _)); refine blk_put (cs := #[.int .i64 t169, .int .i64 0, .slice none 0 0]) ?_ 1 _ rfl; (with_reducible repeat (first | refine blk_drewN ?_ _ | refine blk_drew ?_ | refine blk_alloc ?_ _)); refine blk_put (cs := #[.int .i64 0, .int .i64 0, .slice none 0 0]) ?_ 0 _ rfl; (with_reducible repeat (first | refine blk_drewN ?_ _ | refine blk_drew ?_ | refine blk_alloc ?_ _)); exact BK176.out) NB176_0.out (by simp)); replace HK := am_ (KeepBut.trans (hk2_ HK.out GW168.out GW176.out) hk (.inl rfl)); replace HI0 := am_ (hi); replace HB := am_ (hb); (try clear hb); (try clear hb2); (try clear hk); (try clear hi); obtain ⟨hcz123_0, hcz123_1, hcz123_2, hfz123_0, hfz123_1, hfz123_2⟩ := bc3_ BK176.out; have hnb124 := NB168_0.out; have hnc124 := NB0_168.out; obtain ⟨hcz125_0, hcz125_1, hcz125_2, hfz125_0, hfz125_1, hfz125_2⟩ := bc3_ BK168.out))
       refine bodyPost_ret (results_cell_row rfl _ _ gb168 30 #[.int .i64 t169, .int .i64 t170, .slice Ao121 t171.length co121] (0, 0) _ rfl (by (with_reducible repeat (first | refine blk_drewN ?_ _ | refine blk_drew ?_ | refine blk_alloc ?_ _)); refine blk_put (cs := #[.int .i64 t169, .int .i64 t170, .slice none 0 0]) ?_ 2 _ rfl; (with_reducible repeat (first | refine blk_drewN ?_ _ | refine blk_drew ?_ | refine blk_alloc ?_ _)); refine blk_put (cs := #[.int .i64 t169, .int .i64 0, .slice none 0 0]) ?_ 1 _ rfl; (with_reducible repeat (first | refine blk_drewN ?_ _ | refine blk_drew ?_ | refine blk_alloc ?_ _)); refine blk_put (cs := #[.int .i64 0, .int .i64 0, .slice none 0 0]) ?_ 0 _ rfl; (with_reducible repeat (first | refine blk_drewN ?_ _ | refine blk_drew ?_ | refine blk_alloc ?_ _)); exact BK168.out) Try.underlying30 rfl (by kernel_rfl)) rfl ?_
       exact ⟨_, er_, by (with_reducible repeat (first | apply Kd.R_alloc | apply Kd.R_drewN | apply Kd.R_drew)); exact Kd.R_mono (Kd.R_far (p := ⟨gb168, 2, none⟩) (Kd.R_far (p := ⟨gb168, 1, none⟩) (Kd.R_far (p := ⟨gb168, 0, none⟩) (Kd.R_types HO173.out BK168.out (by decide)) (fun _ hk => hk.2) (.int .i64 t169)) (fun _ hk => hk.2) (.int .i64 t170)) (fun _ hk => hk.2) (.slice Ao121 t171.length co121)) (fun _ hk => trivial), by repeat (first | (with_reducible first | exact HI0.out | apply IsS94.alloc | apply IsS94.drewN | apply IsS94.drew | apply IsS94.set_1 | apply IsS94.set_2 | refine IsS94.far ?_ NB0_168.out _ | refine IsS94.far ?_ NB0_176.out _) | exact HI0.out), hb3_ HB.out (IsS94.ge HI0.out) GE168.out GE176.out, hk2_ HK.out GW168.out GW176.out⟩
def spec_l1In.f (a0 : Int) (a1 : Int) (a2 : Int) : Option (Bool) := if a0 ≥ a1 then (some (decide (a0 ≤ a2))) else (some false)
set_option maxHeartbeats 8000000 in
set_option maxRecDepth 100000 in
theorem spec_l1In.calls (a0 : Int) (a1 : Int) (a2 : Int) (r : Bool) (w : World) (h : spec_l1In.f a0 a1 a2 = some r) :
  Calls Try.prog 54 #[.int .i64 a0, .int .i64 a1, .int .i64 a2] w fun e w' => e = .returned (.bool r) ∧ Drawn0 w w' := by
 have H : (if a0 ≥ a1 then (some (decide (a0 ≤ a2))) else (some false)) = some r := h
 clear h
 by_cases c4 : a0 ≥ a1
 ·rw [if_pos c4] at H
  have c4b0 : decide (a1 ≤ a0) = true := decide_eq_true c4
  clear c4
  obtain rfl := Option.some.inj H
  go_enter Try.func54, Try.ntmps54
  go_wp2
  go_ret
  exact ⟨by first | rfl | (simp; done) | (simp [*]; done), by repeat (first | exact Drawn0.refl _ | apply Drawn0.step)⟩
 ·rw [if_neg c4] at H
  have c4b0 : decide (a1 ≤ a0) = false := decide_eq_false c4
  clear c4
  obtain rfl := Option.some.inj H
  go_enter Try.func54, Try.ntmps54
  go_wp2
  go_ret
  exact ⟨by first | rfl | (simp; done) | (simp [*]; done), by repeat (first | exact Drawn0.refl _ | apply Drawn0.step)⟩
def spec_DriftOk.f (a0_0 : Int) (a0_1 : Int) : Option (Bool) := (spec_l1In.f a0_1 1 1000000).bind fun t207 => (if t207 = true then ((spec_l1In.f a0_0 0 a0_1).bind fun t208 => (if t208 = true then (some (decide ((wrap64 (2 * a0_0)) ≤ a0_1))) else (some false))) else (some false))
set_option maxHeartbeats 8000000 in
set_option maxRecDepth 100000 in
theorem spec_DriftOk.calls (a0_0 : Int) (a0_1 : Int) (r : Bool) (w : World) (h : spec_DriftOk.f a0_0 a0_1 = some r) :
  Calls Try.prog 53 #[.agg #[.int .i64 a0_0, .int .i64 a0_1]] w fun e w' => e = .returned (.bool r) ∧ Below w.heap.size w w' := by
 have hu27 := Try.underlying27
 have HB := am_ (Below.refl w.heap.size w)
 have H : ((spec_l1In.f a0_1 1 1000000).bind fun t207 => (if t207 = true then ((spec_l1In.f a0_0 0 a0_1).bind fun t208 => (if t208 = true then (some (decide ((wrap64 (2 * a0_0)) ≤ a0_1))) else (some false))) else (some false))) = some r := h
 clear h
 replace H := Option.bind_eq_some_iff.mp H
 obtain ⟨t207, A20, H⟩ := H
 replace H : (if t207 = true then ((spec_l1In.f a0_0 0 a0_1).bind fun t208 => (if t208 = true then (some (decide ((wrap64 (2 * a0_0)) ≤ a0_1))) else (some false))) else (some false)) = some r := H
 have A2 := Aside0.mk A20
 clear A20
 by_cases c3 : t207 = true
 ·subst c3
  have H1 : ((spec_l1In.f a0_0 0 a0_1).bind fun t208 => (if t208 = true then (some (decide ((wrap64 (2 * a0_0)) ≤ a0_1))) else (some false))) = some r := by rw [if_pos rfl] at H; exact H
  clear H
  have H := H1
  clear H1
  replace H := Option.bind_eq_some_iff.mp H
  obtain ⟨t208, A40, H⟩ := H
  replace H : (if t208 = true then (some (decide ((wrap64 (2 * a0_0)) ≤ a0_1))) else (some false)) = some r := H
  have A4 := Aside0.mk A40
  clear A40
  by_cases c5 : t208 = true
  ·subst c5
   have H1 : (some (decide ((wrap64 (2 * a0_0)) ≤ a0_1))) = some r := by rw [if_pos rfl] at H; exact H
   clear H
   have H := H1
   clear H1
   obtain rfl := Option.some.inj H
   go_enter Try.func53, Try.ntmps53
   go_wp2_with (first | ((with_reducible refine gate_dst (N := 1) rfl ?_); refine be_ (N := 1) (cs := #[.int .i64 a0_0, .int .i64 a0_1]) (t := 27) ?_; intro gb206 hg w6 hbox hb; have BK206 := am_ (hbox); have GW206 := am_ (hy_ hg (hb_ HB.out) : w.heap.size ≤ gb206); have GE206 := GW206; replace HB := am_ (below_step (hb_ HB.out) hb); clear hb hbox hg; obtain ⟨hcz7_0, hcz7_1, hfz7_0, hfz7_1⟩ := bc2_ BK206.out) | ((with_reducible refine gate_callee (f := 54) rfl ?_); refine gl_ Try.func54 #[.int .i64 a0_1, .int .i64 1, .int .i64 1000000] ?_; (with_reducible refine (spec_l1In.calls a0_1 1 1000000 true _ A2.out).mono ?_); rintro e w' ⟨rfl, ⟨nd, rfl⟩⟩; refine ⟨_, rfl, ?_⟩) | (go_at_call 54; (with_reducible refine (spec_l1In.calls a0_0 0 a0_1 true _ A4.out).mono ?_); rintro e w' ⟨rfl, ⟨nd, rfl⟩⟩))
   go_ret
   exact ⟨er_, hb1_ HB.out GE206.out⟩
  ·replace c5 := Bool.eq_false_iff.mpr c5
   subst c5
   have H1 : (some false) = some r := by rw [if_neg (show ¬ (false = true) by decide)] at H; exact H
   clear H
   have H := H1
   clear H1
   obtain rfl := Option.some.inj H
   go_enter Try.func53, Try.ntmps53
   go_wp2_with (first | ((with_reducible refine gate_dst (N := 1) rfl ?_); refine be_ (N := 1) (cs := #[.int .i64 a0_0, .int .i64 a0_1]) (t := 27) ?_; intro gb206 hg w8 hbox hb; have BK206 := am_ (hbox); have GW206 := am_ (hy_ hg (hb_ HB.out) : w.heap.size ≤ gb206); have GE206 := GW206; replace HB := am_ (below_step (hb_ HB.out) hb); clear hb hbox hg; obtain ⟨hcz9_0, hcz9_1, hfz9_0, hfz9_1⟩ := bc2_ BK206.out) | ((with_reducible refine gate_callee (f := 54) rfl ?_); refine gl_ Try.func54 #[.int .i64 a0_1, .int .i64 1, .int .i64 1000000] ?_; (with_reducible refine (spec_l1In.calls a0_1 1 1000000 true _ A2.out).mono ?_); rintro e w' ⟨rfl, ⟨nd, rfl⟩⟩; refine ⟨_, rfl, ?_⟩) | (go_at_call 54; (with_reducible refine (spec_l1In.calls a0_0 0 a0_1 false _ A4.out).mono ?_); rintro e w' ⟨rfl, ⟨nd, rfl⟩⟩))
   go_ret
   exact ⟨er_, hb1_ HB.out GE206.out⟩
 ·replace c3 := Bool.eq_false_iff.mpr c3
  subst c3
  have H1 : (some false) = some r := by rw [if_neg (show ¬ (false = true) by decide)] at H; exact H
  clear H
  have H := H1
  clear H1
  obtain rfl := Option.some.inj H
  go_enter Try.func53, Try.ntmps53
  go_wp2_with (first | ((with_reducible refine gate_dst (N := 1) rfl ?_); refine be_ (N := 1) (cs := #[.int .i64 a0_0, .int .i64 a0_1]) (t := 27) ?_; intro gb206 hg w10 hbox hb; have BK206 := am_ (hbox); have GW206 := am_ (hy_ hg (hb_ HB.out) : w.heap.size ≤ gb206); have GE206 := GW206; replace HB := am_ (below_step (hb_ HB.out) hb); clear hb hbox hg; obtain ⟨hcz11_0, hcz11_1, hfz11_0, hfz11_1⟩ := bc2_ BK206.out) | ((with_reducible refine gate_callee (f := 54) rfl ?_); refine gl_ Try.func54 #[.int .i64 a0_1, .int .i64 1, .int .i64 1000000] ?_; (with_reducible refine (spec_l1In.calls a0_1 1 1000000 false _ A2.out).mono ?_); rintro e w' ⟨rfl, ⟨nd, rfl⟩⟩; refine ⟨_, rfl, ?_⟩))
  go_ret
  exact ⟨er_, hb1_ HB.out GE206.out⟩
end Go.Proofs.Ytllpmpfchidhoaa.P
