/- Texts of the seat's proofs, part 1: functions of the program told as plain functions, with their contracts, and what is shown of them. No condition. -/
import Derived.Test.YtcbglmoeogbakaaU
import Derived.Test.YtcbglmoeogbakaaProg
import Derived.Below
import Derived.Deep.Draws
import Derived.Deep.AppendLies
import Derived.Maps.AppendAt
import Derived.OwnWalk
import Derived.Laws.BytesArg
import Derived.Laws.MakeOwn
import Derived.Laws.OwnMore
import Derived.Deep.OwnRows
import Derived.Tactics
import Derived.Lib.ConvBytes
import Derived.Laws.Slices
import Derived.WalkKit
import Derived.KernelRfl
import Derived.RowKit3
import Derived.Deep.LoopGhost
import Derived.Deep.QuietTactic
import Derived.BigQuiet
import Derived.WideLaws
import Derived.Deep.DeepCutAuto
import Derived.Deep.CutBlock
import Derived.Deep.RegionHeld3
import Derived.Laws.Rows
import Derived.Lib.AppendStr
import Derived.ArgAppend
import Derived.Laws.IdiomCopy
import Derived.OrdersHeld
import Derived.Laws.BitsLemmas
import Derived.RowKit
set_option linter.unusedVariables false
set_option linter.unusedSimpArgs false
namespace Go.Proofs.Ytcbglmoeogbakaa.P
open Go.RowKit Go.Proofs.YtcbglmoeogbakaaW.PrintWords Go.Proofs.YtcbglmoeogbakaaW.PrintLast Go.Proofs.YtcbglmoeogbakaaW.PrintMore
attribute [local go_sem] max2_int min2_int max_two min_two max_three min_three max_four min_four
set_option linter.unusedVariables false
set_option linter.unusedSimpArgs false
def errW : Option Int → Value
  | none => .nilIface
  | some c => .iface 0 (.int .i64 c)
theorem errW_none : errW none = .nilIface := rfl
theorem errW_some (c : Int) : errW (some c) = .iface 0 (.int .i64 c) := rfl
theorem info3 : (Try.prog.info? 3).map (fun i => (i.zero, i.size, i.bytes)) = some (some (.int .i64 0), 1, 8) := by kernel_rfl
theorem info5 : (Try.prog.info? 5).map (fun i => (i.zero, i.size, i.bytes)) = some (some (.int .u8 0), 1, 1) := by kernel_rfl
theorem info60 : (Try.prog.info? 60).map (fun i => (i.zero, i.size, i.bytes)) = some (some (.agg #[(.int .i64 0), (.int .i64 0), (.int .i64 0), (.int .i64 0), (.int .i64 0), (.string ⟨#[]⟩)]), 6, 56) := by kernel_rfl
theorem info64 : (Try.prog.info? 64).map (fun i => (i.zero, i.size, i.bytes)) = some (some (.agg #[(.int .i64 0), (.int .i64 0)]), 2, 16) := by kernel_rfl
theorem info78 : (Try.prog.info? 78).map (fun i => (i.zero, i.size, i.bytes)) = some (some (.agg #[(.int .i64 0), (.int .i64 0)]), 2, 16) := by kernel_rfl
structure S109 where
  f0 : Int
  f1 : Int
def z109 : S109 := ⟨(0 : Int), (0 : Int)⟩
def k109 : Kd S109 := Kd.iso (Kd.pair (Kd.int .i64) (Kd.int .i64)) (fun x : S109 => (x.f0, x.f1))
theorem k109_open {w : World} {x : S109} {cs : List Value} (h : k109.K w x cs) : cs = [.int .i64 x.f0, .int .i64 x.f1] := by
  obtain ⟨_, _, rfl, rfl, rfl⟩ := h
  exact rfl
theorem k109_openM {w : World} {base : Nat} {ok : Nat → Prop} {x : S109} {cs : List Value} (h : k109.M w base ok x cs) : cs = [.int .i64 x.f0, .int .i64 x.f1] := by
  obtain ⟨_, _, rfl, rfl, rfl⟩ := h
  exact rfl
theorem k109_mk (w : World) (x : S109)  : k109.K w x [.int .i64 x.f0, .int .i64 x.f1] := ⟨[.int .i64 x.f0], [.int .i64 x.f1], rfl, rfl, rfl⟩
theorem k109_mkM (w : World) (base : Nat) (ok : Nat → Prop) (x : S109)  : k109.M w base ok x [.int .i64 x.f0, .int .i64 x.f1] := ⟨[.int .i64 x.f0], [.int .i64 x.f1], rfl, rfl, rfl⟩
def rd_T109 (xs : List S109) (i : Int) : S109 := xs.getD i.toNat z109
theorem at_T109 {w : World} {A : Option Addr} {n : Nat} {xs : List S109} (h : Kd.C k109 w A n xs) (i : Int) (h0 : 0 ≤ i) (h1 : i < n) : ∃ ad , A = some ad ∧ w.cell? (ad.add (i.toNat * 2)) = some (.int .i64 (rd_T109 xs i).f0) ∧ w.cell? ⟨(ad.add (i.toNat * 2)).block, (ad.add (i.toNat * 2)).off + 1, none⟩ = some (.int .i64 (rd_T109 xs i).f1) := by
  obtain ⟨ad, c, e, _, hK, hc0⟩ := Kd.C_get h z109 i h0 h1
  have hc : ∀ j u, c[j]? = some u → w.cell? (ad.add (i.toNat * 2 + j)) = some u := hc0
  obtain rfl := k109_open hK
  exact ⟨ad, e, hc 0 _ rfl, by rw [← add_field _ _ 1 (by omega)]; exact hc 1 _ rfl⟩
structure S78 where
  f0 : Int
  f1 : Int
def z78 : S78 := ⟨(0 : Int), (0 : Int)⟩
def k78 : Kd S78 := Kd.iso (Kd.pair (Kd.int .i64) (Kd.int .i64)) (fun x : S78 => (x.f0, x.f1))
theorem k78_open {w : World} {x : S78} {cs : List Value} (h : k78.K w x cs) : cs = [.int .i64 x.f0, .int .i64 x.f1] := by
  obtain ⟨_, _, rfl, rfl, rfl⟩ := h
  exact rfl
theorem k78_openM {w : World} {base : Nat} {ok : Nat → Prop} {x : S78} {cs : List Value} (h : k78.M w base ok x cs) : cs = [.int .i64 x.f0, .int .i64 x.f1] := by
  obtain ⟨_, _, rfl, rfl, rfl⟩ := h
  exact rfl
theorem k78_mk (w : World) (x : S78)  : k78.K w x [.int .i64 x.f0, .int .i64 x.f1] := ⟨[.int .i64 x.f0], [.int .i64 x.f1], rfl, rfl, rfl⟩
theorem k78_mkM (w : World) (base : Nat) (ok : Nat → Prop) (x : S78)  : k78.M w base ok x [.int .i64 x.f0, .int .i64 x.f1] := ⟨[.int .i64 x.f0], [.int .i64 x.f1], rfl, rfl, rfl⟩
def rd_T78 (xs : List S78) (i : Int) : S78 := xs.getD i.toNat z78
theorem at_T78 {w : World} {A : Option Addr} {n : Nat} {xs : List S78} (h : Kd.C k78 w A n xs) (i : Int) (h0 : 0 ≤ i) (h1 : i < n) : ∃ ad , A = some ad ∧ w.cell? (ad.add (i.toNat * 2)) = some (.int .i64 (rd_T78 xs i).f0) ∧ w.cell? ⟨(ad.add (i.toNat * 2)).block, (ad.add (i.toNat * 2)).off + 1, none⟩ = some (.int .i64 (rd_T78 xs i).f1) := by
  obtain ⟨ad, c, e, _, hK, hc0⟩ := Kd.C_get h z78 i h0 h1
  have hc : ∀ j u, c[j]? = some u → w.cell? (ad.add (i.toNat * 2 + j)) = some u := hc0
  obtain rfl := k78_open hK
  exact ⟨ad, e, hc 0 _ rfl, by rw [← add_field _ _ 1 (by omega)]; exact hc 1 _ rfl⟩
structure S93 where
  f0 : Int
  f1 : Int
  f2 : Int
  f3 : Int
  f4 : Int
  f5 : ByteArray
def z93 : S93 := ⟨(0 : Int), (0 : Int), (0 : Int), (0 : Int), (0 : Int), (⟨#[]⟩ : ByteArray)⟩
def k93 : Kd S93 := Kd.iso (Kd.pair (Kd.int .i64) (Kd.pair (Kd.int .i64) (Kd.pair (Kd.int .i64) (Kd.pair (Kd.int .i64) (Kd.pair (Kd.int .i64) Kd.string))))) (fun x : S93 => (x.f0, x.f1, x.f2, x.f3, x.f4, x.f5))
theorem k93_open {w : World} {x : S93} {cs : List Value} (h : k93.K w x cs) : cs = [.int .i64 x.f0, .int .i64 x.f1, .int .i64 x.f2, .int .i64 x.f3, .int .i64 x.f4, .string x.f5] := by
  obtain ⟨_, _, rfl, rfl, ⟨_, _, rfl, rfl, ⟨_, _, rfl, rfl, ⟨_, _, rfl, rfl, ⟨_, _, rfl, rfl, rfl⟩⟩⟩⟩⟩ := h
  exact rfl
theorem k93_openM {w : World} {base : Nat} {ok : Nat → Prop} {x : S93} {cs : List Value} (h : k93.M w base ok x cs) : cs = [.int .i64 x.f0, .int .i64 x.f1, .int .i64 x.f2, .int .i64 x.f3, .int .i64 x.f4, .string x.f5] := by
  obtain ⟨_, _, rfl, rfl, ⟨_, _, rfl, rfl, ⟨_, _, rfl, rfl, ⟨_, _, rfl, rfl, ⟨_, _, rfl, rfl, rfl⟩⟩⟩⟩⟩ := h
  exact rfl
theorem k93_mk (w : World) (x : S93)  : k93.K w x [.int .i64 x.f0, .int .i64 x.f1, .int .i64 x.f2, .int .i64 x.f3, .int .i64 x.f4, .string x.f5] := ⟨[.int .i64 x.f0], [.int .i64 x.f1, .int .i64 x.f2, .int .i64 x.f3, .int .i64 x.f4, .string x.f5], rfl, rfl, ⟨[.int .i64 x.f1], [.int .i64 x.f2, .int .i64 x.f3, .int .i64 x.f4, .string x.f5], rfl, rfl, ⟨[.int .i64 x.f2], [.int .i64 x.f3, .int .i64 x.f4, .string x.f5], rfl, rfl, ⟨[.int .i64 x.f3], [.int .i64 x.f4, .string x.f5], rfl, rfl, ⟨[.int .i64 x.f4], [.string x.f5], rfl, rfl, rfl⟩⟩⟩⟩⟩
theorem k93_mkM (w : World) (base : Nat) (ok : Nat → Prop) (x : S93)  : k93.M w base ok x [.int .i64 x.f0, .int .i64 x.f1, .int .i64 x.f2, .int .i64 x.f3, .int .i64 x.f4, .string x.f5] := ⟨[.int .i64 x.f0], [.int .i64 x.f1, .int .i64 x.f2, .int .i64 x.f3, .int .i64 x.f4, .string x.f5], rfl, rfl, ⟨[.int .i64 x.f1], [.int .i64 x.f2, .int .i64 x.f3, .int .i64 x.f4, .string x.f5], rfl, rfl, ⟨[.int .i64 x.f2], [.int .i64 x.f3, .int .i64 x.f4, .string x.f5], rfl, rfl, ⟨[.int .i64 x.f3], [.int .i64 x.f4, .string x.f5], rfl, rfl, ⟨[.int .i64 x.f4], [.string x.f5], rfl, rfl, rfl⟩⟩⟩⟩⟩
def rd_T93 (xs : List S93) (i : Int) : S93 := xs.getD i.toNat z93
theorem at_T93 {w : World} {A : Option Addr} {n : Nat} {xs : List S93} (h : Kd.C k93 w A n xs) (i : Int) (h0 : 0 ≤ i) (h1 : i < n) : ∃ ad , A = some ad ∧ w.cell? (ad.add (i.toNat * 6)) = some (.int .i64 (rd_T93 xs i).f0) ∧ w.cell? ⟨(ad.add (i.toNat * 6)).block, (ad.add (i.toNat * 6)).off + 1, none⟩ = some (.int .i64 (rd_T93 xs i).f1) ∧ w.cell? ⟨(ad.add (i.toNat * 6)).block, (ad.add (i.toNat * 6)).off + 2, none⟩ = some (.int .i64 (rd_T93 xs i).f2) ∧ w.cell? ⟨(ad.add (i.toNat * 6)).block, (ad.add (i.toNat * 6)).off + 3, none⟩ = some (.int .i64 (rd_T93 xs i).f3) ∧ w.cell? ⟨(ad.add (i.toNat * 6)).block, (ad.add (i.toNat * 6)).off + 4, none⟩ = some (.int .i64 (rd_T93 xs i).f4) ∧ w.cell? ⟨(ad.add (i.toNat * 6)).block, (ad.add (i.toNat * 6)).off + 5, none⟩ = some (.string (rd_T93 xs i).f5) := by
  obtain ⟨ad, c, e, _, hK, hc0⟩ := Kd.C_get h z93 i h0 h1
  have hc : ∀ j u, c[j]? = some u → w.cell? (ad.add (i.toNat * 6 + j)) = some u := hc0
  obtain rfl := k93_open hK
  exact ⟨ad, e, hc 0 _ rfl, by rw [← add_field _ _ 1 (by omega)]; exact hc 1 _ rfl, by rw [← add_field _ _ 2 (by omega)]; exact hc 2 _ rfl, by rw [← add_field _ _ 3 (by omega)]; exact hc 3 _ rfl, by rw [← add_field _ _ 4 (by omega)]; exact hc 4 _ rfl, by rw [← add_field _ _ 5 (by omega)]; exact hc 5 _ rfl⟩
structure S60 where
  f0 : Int
  f1 : Int
  f2 : Int
  f3 : Int
  f4 : Int
  f5 : ByteArray
def z60 : S60 := ⟨(0 : Int), (0 : Int), (0 : Int), (0 : Int), (0 : Int), (⟨#[]⟩ : ByteArray)⟩
def k60 : Kd S60 := Kd.iso (Kd.pair (Kd.int .i64) (Kd.pair (Kd.int .i64) (Kd.pair (Kd.int .i64) (Kd.pair (Kd.int .i64) (Kd.pair (Kd.int .i64) Kd.string))))) (fun x : S60 => (x.f0, x.f1, x.f2, x.f3, x.f4, x.f5))
theorem k60_open {w : World} {x : S60} {cs : List Value} (h : k60.K w x cs) : cs = [.int .i64 x.f0, .int .i64 x.f1, .int .i64 x.f2, .int .i64 x.f3, .int .i64 x.f4, .string x.f5] := by
  obtain ⟨_, _, rfl, rfl, ⟨_, _, rfl, rfl, ⟨_, _, rfl, rfl, ⟨_, _, rfl, rfl, ⟨_, _, rfl, rfl, rfl⟩⟩⟩⟩⟩ := h
  exact rfl
theorem k60_openM {w : World} {base : Nat} {ok : Nat → Prop} {x : S60} {cs : List Value} (h : k60.M w base ok x cs) : cs = [.int .i64 x.f0, .int .i64 x.f1, .int .i64 x.f2, .int .i64 x.f3, .int .i64 x.f4, .string x.f5] := by
  obtain ⟨_, _, rfl, rfl, ⟨_, _, rfl, rfl, ⟨_, _, rfl, rfl, ⟨_, _, rfl, rfl, ⟨_, _, rfl, rfl, rfl⟩⟩⟩⟩⟩ := h
  exact rfl
theorem k60_mk (w : World) (x : S60)  : k60.K w x [.int .i64 x.f0, .int .i64 x.f1, .int .i64 x.f2, .int .i64 x.f3, .int .i64 x.f4, .string x.f5] := ⟨[.int .i64 x.f0], [.int .i64 x.f1, .int .i64 x.f2, .int .i64 x.f3, .int .i64 x.f4, .string x.f5], rfl, rfl, ⟨[.int .i64 x.f1], [.int .i64 x.f2, .int .i64 x.f3, .int .i64 x.f4, .string x.f5], rfl, rfl, ⟨[.int .i64 x.f2], [.int .i64 x.f3, .int .i64 x.f4, .string x.f5], rfl, rfl, ⟨[.int .i64 x.f3], [.int .i64 x.f4, .string x.f5], rfl, rfl, ⟨[.int .i64 x.f4], [.string x.f5], rfl, rfl, rfl⟩⟩⟩⟩⟩
theorem k60_mkM (w : World) (base : Nat) (ok : Nat → Prop) (x : S60)  : k60.M w base ok x [.int .i64 x.f0, .int .i64 x.f1, .int .i64 x.f2, .int .i64 x.f3, .int .i64 x.f4, .string x.f5] := ⟨[.int .i64 x.f0], [.int .i64 x.f1, .int .i64 x.f2, .int .i64 x.f3, .int .i64 x.f4, .string x.f5], rfl, rfl, ⟨[.int .i64 x.f1], [.int .i64 x.f2, .int .i64 x.f3, .int .i64 x.f4, .string x.f5], rfl, rfl, ⟨[.int .i64 x.f2], [.int .i64 x.f3, .int .i64 x.f4, .string x.f5], rfl, rfl, ⟨[.int .i64 x.f3], [.int .i64 x.f4, .string x.f5], rfl, rfl, ⟨[.int .i64 x.f4], [.string x.f5], rfl, rfl, rfl⟩⟩⟩⟩⟩
def rd_T60 (xs : List S60) (i : Int) : S60 := xs.getD i.toNat z60
theorem at_T60 {w : World} {A : Option Addr} {n : Nat} {xs : List S60} (h : Kd.C k60 w A n xs) (i : Int) (h0 : 0 ≤ i) (h1 : i < n) : ∃ ad , A = some ad ∧ w.cell? (ad.add (i.toNat * 6)) = some (.int .i64 (rd_T60 xs i).f0) ∧ w.cell? ⟨(ad.add (i.toNat * 6)).block, (ad.add (i.toNat * 6)).off + 1, none⟩ = some (.int .i64 (rd_T60 xs i).f1) ∧ w.cell? ⟨(ad.add (i.toNat * 6)).block, (ad.add (i.toNat * 6)).off + 2, none⟩ = some (.int .i64 (rd_T60 xs i).f2) ∧ w.cell? ⟨(ad.add (i.toNat * 6)).block, (ad.add (i.toNat * 6)).off + 3, none⟩ = some (.int .i64 (rd_T60 xs i).f3) ∧ w.cell? ⟨(ad.add (i.toNat * 6)).block, (ad.add (i.toNat * 6)).off + 4, none⟩ = some (.int .i64 (rd_T60 xs i).f4) ∧ w.cell? ⟨(ad.add (i.toNat * 6)).block, (ad.add (i.toNat * 6)).off + 5, none⟩ = some (.string (rd_T60 xs i).f5) := by
  obtain ⟨ad, c, e, _, hK, hc0⟩ := Kd.C_get h z60 i h0 h1
  have hc : ∀ j u, c[j]? = some u → w.cell? (ad.add (i.toNat * 6 + j)) = some u := hc0
  obtain rfl := k60_open hK
  exact ⟨ad, e, hc 0 _ rfl, by rw [← add_field _ _ 1 (by omega)]; exact hc 1 _ rfl, by rw [← add_field _ _ 2 (by omega)]; exact hc 2 _ rfl, by rw [← add_field _ _ 3 (by omega)]; exact hc 3 _ rfl, by rw [← add_field _ _ 4 (by omega)]; exact hc 4 _ rfl, by rw [← add_field _ _ 5 (by omega)]; exact hc 5 _ rfl⟩
structure S64 where
  f0 : Int
  f1 : Int
def z64 : S64 := ⟨(0 : Int), (0 : Int)⟩
def k64 : Kd S64 := Kd.iso (Kd.pair (Kd.int .i64) (Kd.int .i64)) (fun x : S64 => (x.f0, x.f1))
theorem k64_open {w : World} {x : S64} {cs : List Value} (h : k64.K w x cs) : cs = [.int .i64 x.f0, .int .i64 x.f1] := by
  obtain ⟨_, _, rfl, rfl, rfl⟩ := h
  exact rfl
theorem k64_openM {w : World} {base : Nat} {ok : Nat → Prop} {x : S64} {cs : List Value} (h : k64.M w base ok x cs) : cs = [.int .i64 x.f0, .int .i64 x.f1] := by
  obtain ⟨_, _, rfl, rfl, rfl⟩ := h
  exact rfl
theorem k64_mk (w : World) (x : S64)  : k64.K w x [.int .i64 x.f0, .int .i64 x.f1] := ⟨[.int .i64 x.f0], [.int .i64 x.f1], rfl, rfl, rfl⟩
theorem k64_mkM (w : World) (base : Nat) (ok : Nat → Prop) (x : S64)  : k64.M w base ok x [.int .i64 x.f0, .int .i64 x.f1] := ⟨[.int .i64 x.f0], [.int .i64 x.f1], rfl, rfl, rfl⟩
def rd_T64 (xs : List S64) (i : Int) : S64 := xs.getD i.toNat z64
theorem at_T64 {w : World} {A : Option Addr} {n : Nat} {xs : List S64} (h : Kd.C k64 w A n xs) (i : Int) (h0 : 0 ≤ i) (h1 : i < n) : ∃ ad , A = some ad ∧ w.cell? (ad.add (i.toNat * 2)) = some (.int .i64 (rd_T64 xs i).f0) ∧ w.cell? ⟨(ad.add (i.toNat * 2)).block, (ad.add (i.toNat * 2)).off + 1, none⟩ = some (.int .i64 (rd_T64 xs i).f1) := by
  obtain ⟨ad, c, e, _, hK, hc0⟩ := Kd.C_get h z64 i h0 h1
  have hc : ∀ j u, c[j]? = some u → w.cell? (ad.add (i.toNat * 2 + j)) = some u := hc0
  obtain rfl := k64_open hK
  exact ⟨ad, e, hc 0 _ rfl, by rw [← add_field _ _ 1 (by omega)]; exact hc 1 _ rfl⟩
def laws_szSlotS.f (l0 : List (S109)) (a1 : Int) : Option (Int) := if (wrap64 (a1 - (l0.length : Int))) < 0 then (some (-1)) else (some (wrap64 (a1 - (l0.length : Int))))
set_option maxHeartbeats 8000000 in
set_option maxRecDepth 100000 in
theorem laws_szSlotS.calls (A0 : Option Addr) (c0 : Nat) (l0 : List (S109)) (a1 : Int) (r : Int) (w : World) (hr0 : Kd.C k109 w A0 l0.length l0) (hc0 : l0.length ≤ c0) (h : laws_szSlotS.f l0 a1 = some r) :
    Calls Try.prog 38 #[.slice A0 l0.length c0, .int .i64 a1] w fun e w' => e = .returned (.int .i64 r) ∧ Drawn0 w w' := by
  have HR0 := Aside0.mk hr0
  have HC0 := Aside0.mk hc0
  clear hr0 hc0
  have H : (if (wrap64 (a1 - (l0.length : Int))) < 0 then (some (-1)) else (some (wrap64 (a1 - (l0.length : Int))))) = some r := h
  clear h
  by_cases c3 : (wrap64 (a1 - (l0.length : Int))) < 0
  · rw [if_pos c3] at H
    have c3b0 : decide ((wrap64 (a1 - (l0.length : Int))) < 0) = true := decide_eq_true c3
    clear c3
    obtain rfl := Option.some.inj H
    go_enter Try.func38, Try.ntmps38
    go_wp2
    go_ret
    exact ⟨by first | rfl | (simp; done) | (simp [*]; done), by repeat (first | exact Drawn0.refl _ | apply Drawn0.step)⟩
  · rw [if_neg c3] at H
    have c3b0 : decide ((wrap64 (a1 - (l0.length : Int))) < 0) = false := decide_eq_false c3
    clear c3
    obtain rfl := Option.some.inj H
    go_enter Try.func38, Try.ntmps38
    go_wp2
    go_ret
    exact ⟨by first | rfl | (simp; done) | (simp [*]; done), by repeat (first | exact Drawn0.refl _ | apply Drawn0.step)⟩
def laws_szPlan.f (a0_0 : Int) (a0_1 : Int) (l0_2 : List (S109)) (a1 : Int) : Option (Int) := (laws_szSlotS.f l0_2 a1).bind fun t102 => (if t102 < 0 then (some (-1)) else (some t102))
set_option maxHeartbeats 8000000 in
set_option maxRecDepth 100000 in
theorem laws_szPlan.calls (a0_0 : Int) (a0_1 : Int) (A0_2 : Option Addr) (c0_2 : Nat) (l0_2 : List (S109)) (a1 : Int) (r : Int) (w : World) (hr0_2 : Kd.C k109 w A0_2 l0_2.length l0_2) (hc0_2 : l0_2.length ≤ c0_2) (h : laws_szPlan.f a0_0 a0_1 l0_2 a1 = some r) :
    Calls Try.prog 8 #[.agg #[.int .i64 a0_0, .int .i64 a0_1, .slice A0_2 l0_2.length c0_2], .int .i64 a1] w fun e w' => e = .returned (.int .i64 r) ∧ Below w.heap.size w w' := by
  have hu24 := Try.underlying24
  have HR0_2 := Aside0.mk hr0_2
  have HC0_2 := Aside0.mk hc0_2
  clear hr0_2 hc0_2
  have HB := Aside0.mk (Below.refl w.heap.size w)
  have H : ((laws_szSlotS.f l0_2 a1).bind fun t102 => (if t102 < 0 then (some (-1)) else (some t102))) = some r := h
  clear h
  replace H := Option.bind_eq_some_iff.mp H
  obtain ⟨t102, A30, H⟩ := H
  replace H : (if t102 < 0 then (some (-1)) else (some t102)) = some r := H
  have A3 := Aside0.mk A30
  clear A30
  by_cases c4 : t102 < 0
  · rw [if_pos c4] at H
    have c4b0 : decide (t102 < 0) = true := decide_eq_true c4
    clear c4
    obtain rfl := Option.some.inj H
    go_enter Try.func8, Try.ntmps8
    go_wp2_with (first | ((with_reducible refine gate_dst (N := 2) rfl ?_); refine box_event ?hg (N := 2) ?hd (cs := #[.int .i64 a0_0, .int .i64 a0_1, .slice A0_2 l0_2.length c0_2]) (t := 24) ?hr ?_; (case hd => rfl); (case hg => rfl); (case hr => first | (go_simp; done) | (go_simp; rfl)); intro gb101 hg w5 hbox hb; have n0_ := Aside0.mk (below_step (hb_ HB.out) hb); have n1_ := Aside0.mk (hbox); have n2_ := Aside0.mk ((by rw [hg]; exact (below_size (hb_ HB.out)) : w.heap.size ≤ gb101)); have n3_ := Aside0.mk ((by rw [hg]; exact (below_size (hb_ HB.out)) : w.heap.size ≤ gb101)); clear HB; have HB := n0_; have BK101 := n1_; have GW101 := n2_; have GE101 := n3_; clear n0_ n1_ n2_ n3_; clear hb hbox hg; have hcz6_0 := bc_ BK101.out 0 (.int .i64 a0_0) rfl; have hcz6_1 := bc_ BK101.out 1 (.int .i64 a0_1) rfl; have hcz6_2 := bc_ BK101.out 2 (.slice A0_2 l0_2.length c0_2) rfl; have hfz6_0 := blk_frozen BK101.out 0; have hfz6_1 := blk_frozen BK101.out 1; have hfz6_2 := blk_frozen BK101.out 2) | ((with_reducible refine gate_callee (f := 38) rfl ?_); refine goesL_ (some 8) rfl rfl Try.func38 (by kernel_rfl) rfl #[.slice A0_2 l0_2.length c0_2, .int .i64 a1] rfl arr_ ?_; (with_reducible refine (laws_szSlotS.calls _ _ l0_2 a1 t102 _ ?side1 ?side2 A3.out).mono ?_); (case side1 => exact kc_ (Kd.C_below HR0_2.out HB.out)); (case side2 => exact HC0_2.out); rintro e w' ⟨rfl, ⟨nd, rfl⟩⟩; refine ⟨_, rfl, ?_⟩))
    go_ret
    exact ⟨er_, hb1_ HB.out GE101.out⟩
  · rw [if_neg c4] at H
    have c4b0 : decide (t102 < 0) = false := decide_eq_false c4
    clear c4
    obtain rfl := Option.some.inj H
    go_enter Try.func8, Try.ntmps8
    go_wp2_with (first | ((with_reducible refine gate_dst (N := 2) rfl ?_); refine box_event ?hg (N := 2) ?hd (cs := #[.int .i64 a0_0, .int .i64 a0_1, .slice A0_2 l0_2.length c0_2]) (t := 24) ?hr ?_; (case hd => rfl); (case hg => rfl); (case hr => first | (go_simp; done) | (go_simp; rfl)); intro gb101 hg w7 hbox hb; have n0_ := Aside0.mk (below_step (hb_ HB.out) hb); have n1_ := Aside0.mk (hbox); have n2_ := Aside0.mk ((by rw [hg]; exact (below_size (hb_ HB.out)) : w.heap.size ≤ gb101)); have n3_ := Aside0.mk ((by rw [hg]; exact (below_size (hb_ HB.out)) : w.heap.size ≤ gb101)); clear HB; have HB := n0_; have BK101 := n1_; have GW101 := n2_; have GE101 := n3_; clear n0_ n1_ n2_ n3_; clear hb hbox hg; have hcz8_0 := bc_ BK101.out 0 (.int .i64 a0_0) rfl; have hcz8_1 := bc_ BK101.out 1 (.int .i64 a0_1) rfl; have hcz8_2 := bc_ BK101.out 2 (.slice A0_2 l0_2.length c0_2) rfl; have hfz8_0 := blk_frozen BK101.out 0; have hfz8_1 := blk_frozen BK101.out 1; have hfz8_2 := blk_frozen BK101.out 2) | ((with_reducible refine gate_callee (f := 38) rfl ?_); refine goesL_ (some 8) rfl rfl Try.func38 (by kernel_rfl) rfl #[.slice A0_2 l0_2.length c0_2, .int .i64 a1] rfl arr_ ?_; (with_reducible refine (laws_szSlotS.calls _ _ l0_2 a1 t102 _ ?side1 ?side2 A3.out).mono ?_); (case side1 => exact kc_ (Kd.C_below HR0_2.out HB.out)); (case side2 => exact HC0_2.out); rintro e w' ⟨rfl, ⟨nd, rfl⟩⟩; refine ⟨_, rfl, ?_⟩))
    go_ret
    exact ⟨er_, hb1_ HB.out GE101.out⟩
def laws_szCfg.f (a0_0 : Int) (a0_1 : Int) (a0_2 : Int) (a0_3 : Int) (a0_4 : Int) (a0_5 : Int) (a0_6 : Int) (a0_7 : Int) (a0_8 : Int) (a0_9 : Int) (l0_10 : List (S109)) (a1 : Int) : Option (Int) := (laws_szPlan.f a0_8 a0_9 l0_10 a1).bind fun t765 => (if t765 < 0 then (some (-1)) else (some t765))
set_option maxHeartbeats 8000000 in
set_option maxRecDepth 100000 in
theorem laws_szCfg.calls (a0_0 : Int) (a0_1 : Int) (a0_2 : Int) (a0_3 : Int) (a0_4 : Int) (a0_5 : Int) (a0_6 : Int) (a0_7 : Int) (a0_8 : Int) (a0_9 : Int) (A0_10 : Option Addr) (c0_10 : Nat) (l0_10 : List (S109)) (a1 : Int) (r : Int) (w : World) (hr0_10 : Kd.C k109 w A0_10 l0_10.length l0_10) (hc0_10 : l0_10.length ≤ c0_10) (h : laws_szCfg.f a0_0 a0_1 a0_2 a0_3 a0_4 a0_5 a0_6 a0_7 a0_8 a0_9 l0_10 a1 = some r) :
    Calls Try.prog 33 #[.agg #[.int .i64 a0_0, .int .i64 a0_1, .int .i64 a0_2, .int .i64 a0_3, .int .i64 a0_4, .int .i64 a0_5, .int .i64 a0_6, .int .i64 a0_7, .int .i64 a0_8, .int .i64 a0_9, .slice A0_10 l0_10.length c0_10], .int .i64 a1] w fun e w' => e = .returned (.int .i64 r) ∧ Below w.heap.size w w' := by
  have hu67 := Try.underlying67
  have hu24 := Try.underlying24
  have HR0_10 := Aside0.mk hr0_10
  have HC0_10 := Aside0.mk hc0_10
  clear hr0_10 hc0_10
  have HB := Aside0.mk (Below.refl w.heap.size w)
  have H : ((laws_szPlan.f a0_8 a0_9 l0_10 a1).bind fun t765 => (if t765 < 0 then (some (-1)) else (some t765))) = some r := h
  clear h
  replace H := Option.bind_eq_some_iff.mp H
  obtain ⟨t765, A30, H⟩ := H
  replace H : (if t765 < 0 then (some (-1)) else (some t765)) = some r := H
  have A3 := Aside0.mk A30
  clear A30
  by_cases c4 : t765 < 0
  · rw [if_pos c4] at H
    have c4b0 : decide (t765 < 0) = true := decide_eq_true c4
    clear c4
    obtain rfl := Option.some.inj H
    go_enter Try.func33, Try.ntmps33
    go_wp2_with (first | ((with_reducible refine gate_dst (N := 2) rfl ?_); refine box_event ?hg (N := 2) ?hd (cs := #[.int .i64 a0_0, .int .i64 a0_1, .int .i64 a0_2, .int .i64 a0_3, .int .i64 a0_4, .int .i64 a0_5, .int .i64 a0_6, .int .i64 a0_7, .int .i64 a0_8, .int .i64 a0_9, .slice A0_10 l0_10.length c0_10]) (t := 67) ?hr ?_; (case hd => rfl); (case hg => rfl); (case hr => first | (go_simp; done) | (go_simp; rfl)); intro gb764 hg w5 hbox hb; have n0_ := Aside0.mk (below_step (hb_ HB.out) hb); have n1_ := Aside0.mk (hbox); have n2_ := Aside0.mk ((by rw [hg]; exact (below_size (hb_ HB.out)) : w.heap.size ≤ gb764)); have n3_ := Aside0.mk ((by rw [hg]; exact (below_size (hb_ HB.out)) : w.heap.size ≤ gb764)); clear HB; have HB := n0_; have BK764 := n1_; have GW764 := n2_; have GE764 := n3_; clear n0_ n1_ n2_ n3_; clear hb hbox hg; have hcz6_0 := bc_ BK764.out 0 (.int .i64 a0_0) rfl; have hcz6_1 := bc_ BK764.out 1 (.int .i64 a0_1) rfl; have hcz6_2 := bc_ BK764.out 2 (.int .i64 a0_2) rfl; have hcz6_3 := bc_ BK764.out 3 (.int .i64 a0_3) rfl; have hcz6_4 := bc_ BK764.out 4 (.int .i64 a0_4) rfl; have hcz6_5 := bc_ BK764.out 5 (.int .i64 a0_5) rfl; have hcz6_6 := bc_ BK764.out 6 (.int .i64 a0_6) rfl; have hcz6_7 := bc_ BK764.out 7 (.int .i64 a0_7) rfl; have hcz6_8 := bc_ BK764.out 8 (.int .i64 a0_8) rfl; have hcz6_9 := bc_ BK764.out 9 (.int .i64 a0_9) rfl; have hcz6_10 := bc_ BK764.out 10 (.slice A0_10 l0_10.length c0_10) rfl; have hfz6_0 := blk_frozen BK764.out 0; have hfz6_1 := blk_frozen BK764.out 1; have hfz6_2 := blk_frozen BK764.out 2; have hfz6_3 := blk_frozen BK764.out 3; have hfz6_4 := blk_frozen BK764.out 4; have hfz6_5 := blk_frozen BK764.out 5; have hfz6_6 := blk_frozen BK764.out 6; have hfz6_7 := blk_frozen BK764.out 7; have hfz6_8 := blk_frozen BK764.out 8; have hfz6_9 := blk_frozen BK764.out 9; have hfz6_10 := blk_frozen BK764.out 10) | ((with_reducible refine gate_callee (f := 8) rfl ?_); refine goesL_ (some 8) rfl rfl Try.func8 (by kernel_rfl) rfl #[.agg #[.int .i64 a0_8, .int .i64 a0_9, .slice A0_10 l0_10.length c0_10], .int .i64 a1] rfl arr_ ?_; (with_reducible refine (laws_szPlan.calls a0_8 a0_9 _ _ l0_10 a1 t765 _ ?side1 ?side2 A3.out).mono ?_); (case side1 => exact kc_ (Kd.C_below HR0_10.out HB.out)); (case side2 => exact HC0_10.out); rintro e w7 ⟨rfl, hb⟩; refine ⟨_, rfl, ?_⟩; have n0_ := Aside0.mk (bb_ BK764.out hb); have n1_ := Aside0.mk (below_step (hb1_ HB.out GE764.out) hb); clear BK764; clear HB; have BK764 := n0_; have HB := n1_; clear n0_ n1_; (try clear hb); (try clear hb2); (try clear hk); (try clear hi)))
    go_ret
    exact ⟨er_, hb1_ HB.out GE764.out⟩
  · rw [if_neg c4] at H
    have c4b0 : decide (t765 < 0) = false := decide_eq_false c4
    clear c4
    obtain rfl := Option.some.inj H
    go_enter Try.func33, Try.ntmps33
    go_wp2_with (first | ((with_reducible refine gate_dst (N := 2) rfl ?_); refine box_event ?hg (N := 2) ?hd (cs := #[.int .i64 a0_0, .int .i64 a0_1, .int .i64 a0_2, .int .i64 a0_3, .int .i64 a0_4, .int .i64 a0_5, .int .i64 a0_6, .int .i64 a0_7, .int .i64 a0_8, .int .i64 a0_9, .slice A0_10 l0_10.length c0_10]) (t := 67) ?hr ?_; (case hd => rfl); (case hg => rfl); (case hr => first | (go_simp; done) | (go_simp; rfl)); intro gb764 hg w8 hbox hb; have n0_ := Aside0.mk (below_step (hb_ HB.out) hb); have n1_ := Aside0.mk (hbox); have n2_ := Aside0.mk ((by rw [hg]; exact (below_size (hb_ HB.out)) : w.heap.size ≤ gb764)); have n3_ := Aside0.mk ((by rw [hg]; exact (below_size (hb_ HB.out)) : w.heap.size ≤ gb764)); clear HB; have HB := n0_; have BK764 := n1_; have GW764 := n2_; have GE764 := n3_; clear n0_ n1_ n2_ n3_; clear hb hbox hg; have hcz9_0 := bc_ BK764.out 0 (.int .i64 a0_0) rfl; have hcz9_1 := bc_ BK764.out 1 (.int .i64 a0_1) rfl; have hcz9_2 := bc_ BK764.out 2 (.int .i64 a0_2) rfl; have hcz9_3 := bc_ BK764.out 3 (.int .i64 a0_3) rfl; have hcz9_4 := bc_ BK764.out 4 (.int .i64 a0_4) rfl; have hcz9_5 := bc_ BK764.out 5 (.int .i64 a0_5) rfl; have hcz9_6 := bc_ BK764.out 6 (.int .i64 a0_6) rfl; have hcz9_7 := bc_ BK764.out 7 (.int .i64 a0_7) rfl; have hcz9_8 := bc_ BK764.out 8 (.int .i64 a0_8) rfl; have hcz9_9 := bc_ BK764.out 9 (.int .i64 a0_9) rfl; have hcz9_10 := bc_ BK764.out 10 (.slice A0_10 l0_10.length c0_10) rfl; have hfz9_0 := blk_frozen BK764.out 0; have hfz9_1 := blk_frozen BK764.out 1; have hfz9_2 := blk_frozen BK764.out 2; have hfz9_3 := blk_frozen BK764.out 3; have hfz9_4 := blk_frozen BK764.out 4; have hfz9_5 := blk_frozen BK764.out 5; have hfz9_6 := blk_frozen BK764.out 6; have hfz9_7 := blk_frozen BK764.out 7; have hfz9_8 := blk_frozen BK764.out 8; have hfz9_9 := blk_frozen BK764.out 9; have hfz9_10 := blk_frozen BK764.out 10) | ((with_reducible refine gate_callee (f := 8) rfl ?_); refine goesL_ (some 8) rfl rfl Try.func8 (by kernel_rfl) rfl #[.agg #[.int .i64 a0_8, .int .i64 a0_9, .slice A0_10 l0_10.length c0_10], .int .i64 a1] rfl arr_ ?_; (with_reducible refine (laws_szPlan.calls a0_8 a0_9 _ _ l0_10 a1 t765 _ ?side1 ?side2 A3.out).mono ?_); (case side1 => exact kc_ (Kd.C_below HR0_10.out HB.out)); (case side2 => exact HC0_10.out); rintro e w10 ⟨rfl, hb⟩; refine ⟨_, rfl, ?_⟩; have n0_ := Aside0.mk (bb_ BK764.out hb); have n1_ := Aside0.mk (below_step (hb1_ HB.out GE764.out) hb); clear BK764; clear HB; have BK764 := n0_; have HB := n1_; clear n0_ n1_; (try clear hb); (try clear hb2); (try clear hk); (try clear hi)))
    go_ret
    exact ⟨er_, hb1_ HB.out GE764.out⟩
def spec_l1In.f (a0 : Int) (a1 : Int) (a2 : Int) : Option (Bool) := if a0 ≥ a1 then (some (decide (a0 ≤ a2))) else (some false)
set_option maxHeartbeats 8000000 in
set_option maxRecDepth 100000 in
theorem spec_l1In.calls (a0 : Int) (a1 : Int) (a2 : Int) (r : Bool) (w : World) (h : spec_l1In.f a0 a1 a2 = some r) :
    Calls Try.prog 51 #[.int .i64 a0, .int .i64 a1, .int .i64 a2] w fun e w' => e = .returned (.bool r) ∧ Drawn0 w w' := by
  have H : (if a0 ≥ a1 then (some (decide (a0 ≤ a2))) else (some false)) = some r := h
  clear h
  by_cases c4 : a0 ≥ a1
  · rw [if_pos c4] at H
    have c4b0 : decide (a1 ≤ a0) = true := decide_eq_true c4
    clear c4
    obtain rfl := Option.some.inj H
    go_enter Try.func51, Try.ntmps51
    go_wp2
    go_ret
    exact ⟨by first | rfl | (simp; done) | (simp [*]; done), by repeat (first | exact Drawn0.refl _ | apply Drawn0.step)⟩
  · rw [if_neg c4] at H
    have c4b0 : decide (a1 ≤ a0) = false := decide_eq_false c4
    clear c4
    obtain rfl := Option.some.inj H
    go_enter Try.func51, Try.ntmps51
    go_wp2
    go_ret
    exact ⟨by first | rfl | (simp; done) | (simp [*]; done), by repeat (first | exact Drawn0.refl _ | apply Drawn0.step)⟩
def spec_l2Time.f (a0 : Int) : Option (Bool) := (spec_l1In.f a0 0 1000000000000).bind fun t103 => (some t103)
set_option maxHeartbeats 8000000 in
set_option maxRecDepth 100000 in
theorem spec_l2Time.calls (a0 : Int) (r : Bool) (w : World) (h : spec_l2Time.f a0 = some r) :
    Calls Try.prog 50 #[.int .i64 a0] w fun e w' => e = .returned (.bool r) ∧ Drawn0 w w' := by
  have H : ((spec_l1In.f a0 0 1000000000000).bind fun t103 => (some t103)) = some r := h
  clear h
  replace H := Option.bind_eq_some_iff.mp H
  obtain ⟨t103, A20, H⟩ := H
  replace H : (some t103) = some r := H
  have A2 := Aside0.mk A20
  clear A20
  obtain rfl := Option.some.inj H
  go_enter Try.func50, Try.ntmps50
  go_wp2_with (first | ((with_reducible refine gate_callee (f := 51) rfl ?_); refine goesL_ (some 4) rfl rfl Try.func51 (by kernel_rfl) rfl #[.int .i64 a0, .int .i64 0, .int .i64 1000000000000] rfl arr_ ?_; (with_reducible refine (spec_l1In.calls a0 0 1000000000000 t103 _ A2.out).mono ?_); rintro e w' ⟨rfl, ⟨nd, rfl⟩⟩; refine ⟨_, rfl, ?_⟩))
  go_ret
  exact ⟨by first | rfl | (simp; done) | (simp [*]; done), by repeat (first | exact Drawn0.refl _ | apply Drawn0.step)⟩
def spec_l4Node.f (a0 : Int) : Option (Bool) := (spec_l1In.f a0 0 7).bind fun t104 => (some t104)
set_option maxHeartbeats 8000000 in
set_option maxRecDepth 100000 in
theorem spec_l4Node.calls (a0 : Int) (r : Bool) (w : World) (h : spec_l4Node.f a0 = some r) :
    Calls Try.prog 52 #[.int .i64 a0] w fun e w' => e = .returned (.bool r) ∧ Drawn0 w w' := by
  have H : ((spec_l1In.f a0 0 7).bind fun t104 => (some t104)) = some r := h
  clear h
  replace H := Option.bind_eq_some_iff.mp H
  obtain ⟨t104, A20, H⟩ := H
  replace H : (some t104) = some r := H
  have A2 := Aside0.mk A20
  clear A20
  obtain rfl := Option.some.inj H
  go_enter Try.func52, Try.ntmps52
  go_wp2_with (first | ((with_reducible refine gate_callee (f := 51) rfl ?_); refine goesL_ (some 4) rfl rfl Try.func51 (by kernel_rfl) rfl #[.int .i64 a0, .int .i64 0, .int .i64 7] rfl arr_ ?_; (with_reducible refine (spec_l1In.calls a0 0 7 t104 _ A2.out).mono ?_); rintro e w' ⟨rfl, ⟨nd, rfl⟩⟩; refine ⟨_, rfl, ?_⟩))
  go_ret
  exact ⟨by first | rfl | (simp; done) | (simp [*]; done), by repeat (first | exact Drawn0.refl _ | apply Drawn0.step)⟩
end Go.Proofs.Ytcbglmoeogbakaa.P
namespace Go.Proofs.Ytcbglmoeogbakaa.P
open Go.RowKit Go.Proofs.YtcbglmoeogbakaaW.PrintWords Go.Proofs.YtcbglmoeogbakaaW.PrintLast Go.Proofs.YtcbglmoeogbakaaW.PrintMore
attribute [local go_sem] max2_int min2_int max_two min_two max_three min_three max_four min_four
set_option linter.unusedVariables false
set_option linter.unusedSimpArgs false
mutual
def spec_PlanOk.j0 : Nat → Bool → Int → Int → List (S78) → Option (Bool)
  | 0, _, _, _, _ => none
  | k + 1, x20, x106000, x106001, x106002 => if x20 = true then (some false) else (spec_PlanOk.l0 k 0 x106000 x106001 x106002)
def spec_PlanOk.l0 : Nat → Int → Int → Int → List (S78) → Option (Bool)
  | 0, _, _, _, _ => none
  | k + 1, x3, x106000, x106001, x106002 => if x3 < (x106002.length : Int) then (if 0 ≤ x3 then ((spec_l4Node.f ((rd_T78 x106002 x3).f0)).bind fun t110 => (if t110 = true then ((spec_l1In.f ((rd_T78 x106002 x3).f1) 1 1000000).bind fun t112 => (if t112 = true then (spec_PlanOk.l0 k (wrap64 (x3 + 1)) x106000 x106001 x106002) else (some false))) else (some false))) else (none)) else (some true)
end
def spec_PlanOk.f (k : Nat) (a0_0 : Int) (a0_1 : Int) (l0_2 : List (S78)) : Option (Bool) := (spec_l2Time.f a0_0).bind fun t106 => (if t106 = true then ((spec_l1In.f a0_1 0 100000).bind fun t107 => (if t107 = true then ((spec_l1In.f (l0_2.length : Int) 1 12).bind fun t108 => (spec_PlanOk.j0 k (!t108) a0_0 a0_1 l0_2)) else (spec_PlanOk.j0 k true a0_0 a0_1 l0_2))) else (spec_PlanOk.j0 k true a0_0 a0_1 l0_2))
theorem spec_PlanOk.mono_l : ∀ k, (∀ y0 y1 y2 y3, LeO (spec_PlanOk.j0 k y0 y1 y2 y3) (spec_PlanOk.j0 (k + 1) y0 y1 y2 y3)) ∧ (∀ y0 y1 y2 y3, LeO (spec_PlanOk.l0 k y0 y1 y2 y3) (spec_PlanOk.l0 (k + 1) y0 y1 y2 y3))
  | 0 => ⟨fun _ _ _ _ r h => by simp [spec_PlanOk.j0] at h, fun _ _ _ _ r h => by simp [spec_PlanOk.l0] at h⟩
  | k + 1 => by
    obtain ⟨ih0, ih1⟩ := spec_PlanOk.mono_l k
    refine ⟨?_, ?_⟩
    · intro y0 y1 y2 y3
      unfold spec_PlanOk.j0
      repeat' first
      | (with_reducible exact ih0 _ _ _ _)
      | (with_reducible exact ih1 _ _ _ _)
      | (with_reducible exact LeO.refl _)
      | (with_reducible exact LeO.none _)
      | (with_reducible refine LeO.ite ?_ ?_)
      | (with_reducible refine LeO.bind ?_ (fun _ => ?_))
      | exact ih0 _ _ _ _
      | exact ih1 _ _ _ _
      | exact LeO.none _
      | refine LeO.ite ?_ ?_
      | refine LeO.bind ?_ (fun _ => ?_)
    · intro y0 y1 y2 y3
      unfold spec_PlanOk.l0
      repeat' first
      | (with_reducible exact ih0 _ _ _ _)
      | (with_reducible exact ih1 _ _ _ _)
      | (with_reducible exact LeO.refl _)
      | (with_reducible exact LeO.none _)
      | (with_reducible refine LeO.ite ?_ ?_)
      | (with_reducible refine LeO.bind ?_ (fun _ => ?_))
      | exact ih0 _ _ _ _
      | exact ih1 _ _ _ _
      | exact LeO.none _
      | refine LeO.ite ?_ ?_
      | refine LeO.bind ?_ (fun _ => ?_)
theorem spec_PlanOk.mono : ∀ a0 a1 a2 k, LeO (spec_PlanOk.f k a0 a1 a2) (spec_PlanOk.f (k + 1) a0 a1 a2) := by
  intro a0 a1 a2 k
  obtain ⟨ih0, ih1⟩ := spec_PlanOk.mono_l k
  unfold spec_PlanOk.f
  repeat' first
      | (with_reducible exact ih0 _ _ _ _)
      | (with_reducible exact ih1 _ _ _ _)
      | (with_reducible exact LeO.refl _)
      | (with_reducible exact LeO.none _)
      | (with_reducible refine LeO.ite ?_ ?_)
      | (with_reducible refine LeO.bind ?_ (fun _ => ?_))
      | exact ih0 _ _ _ _
      | exact ih1 _ _ _ _
      | exact LeO.none _
      | refine LeO.ite ?_ ?_
      | refine LeO.bind ?_ (fun _ => ?_)
set_option maxHeartbeats 8000000 in
set_option maxRecDepth 100000 in
theorem spec_PlanOk.calls (k : Nat) (a0_0 : Int) (a0_1 : Int) (A0_2 : Option Addr) (c0_2 : Nat) (l0_2 : List (S78)) (r : Bool) (w : World) (hr0_2 : Kd.C k78 w A0_2 l0_2.length l0_2) (hc0_2 : l0_2.length ≤ c0_2) (h : spec_PlanOk.f k a0_0 a0_1 l0_2 = some r) :
    Calls Try.prog 20 #[.agg #[.int .i64 a0_0, .int .i64 a0_1, .slice A0_2 l0_2.length c0_2]] w fun e w' => e = .returned (.bool r) ∧ Below w.heap.size w w' := by
  have hu30 := Try.underlying30
  have HR0_2 := Aside0.mk hr0_2
  have HC0_2 := Aside0.mk hc0_2
  clear hr0_2 hc0_2
  have HB := Aside0.mk (Below.refl w.heap.size w)
  have H : ((spec_l2Time.f a0_0).bind fun t106 => (if t106 = true then ((spec_l1In.f a0_1 0 100000).bind fun t107 => (if t107 = true then ((spec_l1In.f (l0_2.length : Int) 1 12).bind fun t108 => (spec_PlanOk.j0 k (!t108) a0_0 a0_1 l0_2)) else (spec_PlanOk.j0 k true a0_0 a0_1 l0_2))) else (spec_PlanOk.j0 k true a0_0 a0_1 l0_2))) = some r := h
  clear h
  have HC2 := Aside0.mk H
  clear H
  go_enter Try.func20, Try.ntmps20
  go_upto_region 1 with (first | ((with_reducible refine gate_dst (N := 1) rfl ?_); (try (refine gate_guard (by rfl) ?_; dsimp only)); refine box_event ?hg (N := 1) ?hd (cs := #[.int .i64 a0_0, .int .i64 a0_1, .slice A0_2 l0_2.length c0_2]) (t := 30) ?hr ?_; (case hd => rfl); (case hg => rfl); (case hr => first | (go_simp; done) | (go_simp; rfl)); intro gb105 hg w3 hbox hb; have n0_ := Aside0.mk (below_step (hb_ HB.out) hb); have n1_ := Aside0.mk (hbox); have n2_ := Aside0.mk ((by rw [hg]; exact (below_size (hb_ HB.out)) : w.heap.size ≤ gb105)); have n3_ := Aside0.mk ((by rw [hg]; exact (below_size (hb_ HB.out)) : w.heap.size ≤ gb105)); clear HB; have HB := n0_; have BK105 := n1_; have GW105 := n2_; have GE105 := n3_; clear n0_ n1_ n2_ n3_; clear hb hbox hg))
  (try simp only [Act.put, List.setIfInBounds_toArray, List.set_cons_zero, List.set_cons_succ])
  go_cut [20] (fun v20 wc => ∃ (kq : Nat) (x20_1 : Bool), v20 = .bool x20_1 ∧ Aside0 (spec_PlanOk.j0 kq x20_1 a0_0 a0_1 l0_2 = some r) ∧ Aside0 (kq ≤ k) ∧ Aside0 (wc.heap[gb105]? = some (.cells #[.int .i64 a0_0, .int .i64 a0_1, (.slice A0_2 l0_2.length c0_2)] 30 (0, 0))) ∧ Aside0 (Below w.heap.size w wc))
  case first =>
    have H := HC2.out
    clear HC2
    replace H := Option.bind_eq_some_iff.mp H
    obtain ⟨t106, A40, H⟩ := H
    replace H : (if t106 = true then ((spec_l1In.f a0_1 0 100000).bind fun t107 => (if t107 = true then ((spec_l1In.f (l0_2.length : Int) 1 12).bind fun t108 => (spec_PlanOk.j0 k (!t108) a0_0 a0_1 l0_2)) else (spec_PlanOk.j0 k true a0_0 a0_1 l0_2))) else (spec_PlanOk.j0 k true a0_0 a0_1 l0_2)) = some r := H
    have A4 := Aside0.mk A40
    clear A40
    by_cases c5 : t106 = true
    · subst c5
      have H1 : ((spec_l1In.f a0_1 0 100000).bind fun t107 => (if t107 = true then ((spec_l1In.f (l0_2.length : Int) 1 12).bind fun t108 => (spec_PlanOk.j0 k (!t108) a0_0 a0_1 l0_2)) else (spec_PlanOk.j0 k true a0_0 a0_1 l0_2))) = some r := by rw [if_pos rfl] at H; exact H
      clear H
      have H := H1
      clear H1
      replace H := Option.bind_eq_some_iff.mp H
      obtain ⟨t107, A60, H⟩ := H
      replace H : (if t107 = true then ((spec_l1In.f (l0_2.length : Int) 1 12).bind fun t108 => (spec_PlanOk.j0 k (!t108) a0_0 a0_1 l0_2)) else (spec_PlanOk.j0 k true a0_0 a0_1 l0_2)) = some r := H
      have A6 := Aside0.mk A60
      clear A60
      by_cases c7 : t107 = true
      · subst c7
        have H1 : ((spec_l1In.f (l0_2.length : Int) 1 12).bind fun t108 => (spec_PlanOk.j0 k (!t108) a0_0 a0_1 l0_2)) = some r := by rw [if_pos rfl] at H; exact H
        clear H
        have H := H1
        clear H1
        replace H := Option.bind_eq_some_iff.mp H
        obtain ⟨t108, A80, H⟩ := H
        replace H : (spec_PlanOk.j0 k (!t108) a0_0 a0_1 l0_2) = some r := H
        have A8 := Aside0.mk A80
        clear A80
        have H' := Aside0.mk H
        clear H
        have hcz9_0 := bc_ BK105.out 0 (.int .i64 a0_0) rfl
        have hcz9_1 := bc_ BK105.out 1 (.int .i64 a0_1) rfl
        have hcz9_2 := bc_ BK105.out 2 (.slice A0_2 l0_2.length c0_2) rfl
        have hfz9_0 := blk_frozen BK105.out 0
        have hfz9_1 := blk_frozen BK105.out 1
        have hfz9_2 := blk_frozen BK105.out 2
        go_wp2_with (first | ((with_reducible refine gate_callee (f := 50) rfl ?_); refine goesL_ (some 6) rfl rfl Try.func50 (by kernel_rfl) rfl #[.int .i64 a0_0] rfl arr_ ?_; (with_reducible refine (spec_l2Time.calls a0_0 true _ A4.out).mono ?_); rintro e w' ⟨rfl, ⟨nd, rfl⟩⟩; refine ⟨_, rfl, ?_⟩) | (go_at_call 51; (with_reducible refine (spec_l1In.calls a0_1 0 100000 true _ A6.out).mono ?_); rintro e w' ⟨rfl, ⟨nd, rfl⟩⟩) | (go_at_call 51; (with_reducible refine (spec_l1In.calls (l0_2.length : Int) 1 12 t108 _ A8.out).mono ?_); rintro e w' ⟨rfl, ⟨nd, rfl⟩⟩))
        go_meet
        case rel => exact ⟨_, (!t108), (by first | rfl | (simp; done) | (simp [*]; done)), H', ⟨by first | omega | exact Nat.le_refl _⟩, ⟨bk_ BK105.out⟩, ⟨hb1_ HB.out GE105.out⟩⟩
      · replace c7 := Bool.eq_false_iff.mpr c7
        subst c7
        have H1 : (spec_PlanOk.j0 k true a0_0 a0_1 l0_2) = some r := by rw [if_neg (show ¬ (false = true) by decide)] at H; exact H
        clear H
        have H := H1
        clear H1
        have H' := Aside0.mk H
        clear H
        have hcz10_0 := bc_ BK105.out 0 (.int .i64 a0_0) rfl
        have hcz10_1 := bc_ BK105.out 1 (.int .i64 a0_1) rfl
        have hcz10_2 := bc_ BK105.out 2 (.slice A0_2 l0_2.length c0_2) rfl
        have hfz10_0 := blk_frozen BK105.out 0
        have hfz10_1 := blk_frozen BK105.out 1
        have hfz10_2 := blk_frozen BK105.out 2
        go_wp2_with (first | ((with_reducible refine gate_callee (f := 50) rfl ?_); refine goesL_ (some 6) rfl rfl Try.func50 (by kernel_rfl) rfl #[.int .i64 a0_0] rfl arr_ ?_; (with_reducible refine (spec_l2Time.calls a0_0 true _ A4.out).mono ?_); rintro e w' ⟨rfl, ⟨nd, rfl⟩⟩; refine ⟨_, rfl, ?_⟩) | (go_at_call 51; (with_reducible refine (spec_l1In.calls a0_1 0 100000 false _ A6.out).mono ?_); rintro e w' ⟨rfl, ⟨nd, rfl⟩⟩))
        go_meet
        case rel => exact ⟨_, (true), (by first | rfl | (simp; done) | (simp [*]; done)), H', ⟨by first | omega | exact Nat.le_refl _⟩, ⟨bk_ BK105.out⟩, ⟨hb1_ HB.out GE105.out⟩⟩
    · replace c5 := Bool.eq_false_iff.mpr c5
      subst c5
      have H1 : (spec_PlanOk.j0 k true a0_0 a0_1 l0_2) = some r := by rw [if_neg (show ¬ (false = true) by decide)] at H; exact H
      clear H
      have H := H1
      clear H1
      have H' := Aside0.mk H
      clear H
      have hcz11_0 := bc_ BK105.out 0 (.int .i64 a0_0) rfl
      have hcz11_1 := bc_ BK105.out 1 (.int .i64 a0_1) rfl
      have hcz11_2 := bc_ BK105.out 2 (.slice A0_2 l0_2.length c0_2) rfl
      have hfz11_0 := blk_frozen BK105.out 0
      have hfz11_1 := blk_frozen BK105.out 1
      have hfz11_2 := blk_frozen BK105.out 2
      go_wp2_with (first | ((with_reducible refine gate_callee (f := 50) rfl ?_); refine goesL_ (some 6) rfl rfl Try.func50 (by kernel_rfl) rfl #[.int .i64 a0_0] rfl arr_ ?_; (with_reducible refine (spec_l2Time.calls a0_0 false _ A4.out).mono ?_); rintro e w' ⟨rfl, ⟨nd, rfl⟩⟩; refine ⟨_, rfl, ?_⟩))
      go_meet
      case rel => exact ⟨_, (true), (by first | rfl | (simp; done) | (simp [*]; done)), H', ⟨by first | omega | exact Nat.le_refl _⟩, ⟨bk_ BK105.out⟩, ⟨hb1_ HB.out GE105.out⟩⟩
  case rest =>
    clear HC2
    try clear c2
    try clear p2
    try clear c5
    try clear c7
    try clear hcz10_0
    try clear hcz10_1
    try clear hcz10_2
    try clear hcz11_0
    try clear hcz11_1
    try clear hcz11_2
    try clear hcz9_0
    try clear hcz9_1
    try clear hcz9_2
    try clear hfz10_0
    try clear hfz10_1
    try clear hfz10_2
    try clear hfz11_0
    try clear hfz11_1
    try clear hfz11_2
    try clear hfz9_0
    try clear hfz9_1
    try clear hfz9_2
    obtain ⟨kq, x20_1, rfl, HA, HJ1, BK105, HB⟩ := hcut
    cases kq with
    | zero => exact absurd HA.out (by simp [spec_PlanOk.j0])
    | succ kj1 =>
      have H := HA.out
      clear HA
      simp only [spec_PlanOk.j0] at H
      by_cases c12 : x20_1 = true
      · subst c12
        have H1 : (some false) = some r := by rw [if_pos rfl] at H; exact H
        clear H
        have H := H1
        clear H1
        obtain rfl := Option.some.inj H
        go_wp2
        go_ret
        exact ⟨er_, hb1_ HB.out GE105.out⟩
      · replace c12 := Bool.eq_false_iff.mpr c12
        subst c12
        have H1 : (spec_PlanOk.l0 kj1 0 a0_0 a0_1 l0_2) = some r := by rw [if_neg (show ¬ (false = true) by decide)] at H; exact H
        clear H
        have H := H1
        clear H1
        have H' := Aside0.mk H
        clear H
        go_wp2
        go_loopg [3] kj1 (fun kq v3 w' => ∃ (x3_2 : Int), v3 = .int .i64 x3_2 ∧ Aside0 (spec_PlanOk.l0 kq x3_2 a0_0 a0_1 l0_2 = some r) ∧ Aside0 (kq ≤ kj1) ∧ Aside0 (w'.heap[gb105]? = some (.cells #[.int .i64 a0_0, .int .i64 a0_1, (.slice A0_2 l0_2.length c0_2)] 30 (0, 0))) ∧ Aside0 (Below w.heap.size w w'))
        case atStart => exact ⟨(0), (by first | rfl | (simp; done) | (simp [*]; done)), H', ⟨Nat.le_refl _⟩, ⟨bk_ BK105.out⟩, ⟨hb1_ HB.out GE105.out⟩⟩
        case round =>
          clear H'
          try clear c1
          try clear c2
          try clear p2
          try clear c5
          try clear c7
          try clear c12
          try clear hcz10_0
          try clear hcz10_1
          try clear hcz10_2
          try clear hcz11_0
          try clear hcz11_1
          try clear hcz11_2
          try clear hcz9_0
          try clear hcz9_1
          try clear hcz9_2
          try clear hfz10_0
          try clear hfz10_1
          try clear hfz10_2
          try clear hfz11_0
          try clear hfz11_1
          try clear hfz11_2
          try clear hfz9_0
          try clear hfz9_1
          try clear hfz9_2
          try clear p2
          obtain ⟨x3_2, rfl, HA, HK2, BK105, HB⟩ := hrel
          cases gk with
          | zero => exact absurd HA.out (by simp [spec_PlanOk.l0])
          | succ k2 =>
            have H := HA.out
            clear HA
            simp only [spec_PlanOk.l0] at H
            by_cases c13 : x3_2 < (l0_2.length : Int)
            · rw [if_pos c13] at H
              have c13b0 : decide (x3_2 < (l0_2.length : Int)) = true := decide_eq_true c13
              clear c13
              by_cases c14 : 0 ≤ x3_2
              · rw [if_pos c14] at H
                have c14b0 : decide (0 ≤ x3_2) = true := decide_eq_true c14
                clear c14
                replace H := Option.bind_eq_some_iff.mp H
                obtain ⟨t110, A150, H⟩ := H
                replace H : (if t110 = true then ((spec_l1In.f ((rd_T78 l0_2 x3_2).f1) 1 1000000).bind fun t112 => (if t112 = true then (spec_PlanOk.l0 k2 (wrap64 (x3_2 + 1)) a0_0 a0_1 l0_2) else (some false))) else (some false)) = some r := H
                have A15 := Aside0.mk A150
                clear A150
                by_cases c16 : t110 = true
                · subst c16
                  have H1 : ((spec_l1In.f ((rd_T78 l0_2 x3_2).f1) 1 1000000).bind fun t112 => (if t112 = true then (spec_PlanOk.l0 k2 (wrap64 (x3_2 + 1)) a0_0 a0_1 l0_2) else (some false))) = some r := by rw [if_pos rfl] at H; exact H
                  clear H
                  have H := H1
                  clear H1
                  replace H := Option.bind_eq_some_iff.mp H
                  obtain ⟨t112, A170, H⟩ := H
                  replace H : (if t112 = true then (spec_PlanOk.l0 k2 (wrap64 (x3_2 + 1)) a0_0 a0_1 l0_2) else (some false)) = some r := H
                  have A17 := Aside0.mk A170
                  clear A170
                  by_cases c18 : t112 = true
                  · subst c18
                    have H1 : (spec_PlanOk.l0 k2 (wrap64 (x3_2 + 1)) a0_0 a0_1 l0_2) = some r := by rw [if_pos rfl] at H; exact H
                    clear H
                    have H := H1
                    clear H1
                    have H' := Aside0.mk H
                    clear H
                    have hcz19_0 := bc_ BK105.out 0 (.int .i64 a0_0) rfl
                    have hcz19_1 := bc_ BK105.out 1 (.int .i64 a0_1) rfl
                    have hcz19_2 := bc_ BK105.out 2 (.slice A0_2 l0_2.length c0_2) rfl
                    have hfz19_0 := blk_frozen BK105.out 0
                    have hfz19_1 := blk_frozen BK105.out 1
                    have hfz19_2 := blk_frozen BK105.out 2
                    have p109 : 0 ≤ (x3_2 : Int) := of_decide_eq_true (by first | (with_reducible assumption) | assumption)
                    have q109 : x3_2 < (l0_2.length : Int) := of_decide_eq_true (by first | (with_reducible assumption) | assumption)
                    obtain ⟨ad109, e109, hx109_0, hx109_1⟩ := at_T78 HR0_2.out x3_2 p109 q109
                    cases e109
                    replace hx109_0 := (HB.out.cell (World.block_lt_of_cell? w _ hx109_0)).trans hx109_0
                    replace hx109_1 := (HB.out.cell (World.block_lt_of_cell? w _ hx109_1)).trans hx109_1
                    replace p109 := eq_true p109
                    replace q109 := eq_true q109
                    go_wp2_with (first | ((with_reducible refine gate_callee (f := 52) rfl ?_); refine goesL_ (some 34) rfl rfl Try.func52 (by kernel_rfl) rfl #[.int .i64 ((rd_T78 l0_2 x3_2).f0)] rfl arr_ ?_; (with_reducible refine (spec_l4Node.calls ((rd_T78 l0_2 x3_2).f0) true _ A15.out).mono ?_); rintro e w' ⟨rfl, ⟨nd, rfl⟩⟩; refine ⟨_, rfl, ?_⟩; have p111 : 0 ≤ (x3_2 : Int) := of_decide_eq_true (by first | (with_reducible assumption) | assumption); have q111 : x3_2 < (l0_2.length : Int) := of_decide_eq_true (by first | (with_reducible assumption) | assumption); obtain ⟨ad111, e111, hx111_0, hx111_1⟩ := at_T78 HR0_2.out x3_2 p111 q111; obtain rfl : ad109 = ad111 := (by injection e111); replace hx111_0 := (HB.out.cell (World.block_lt_of_cell? w _ hx111_0)).trans hx111_0; replace hx111_1 := (HB.out.cell (World.block_lt_of_cell? w _ hx111_1)).trans hx111_1; replace p111 := eq_true p111; replace q111 := eq_true q111) | (go_at_call 51; (with_reducible refine (spec_l1In.calls ((rd_T78 l0_2 x3_2).f1) 1 1000000 true _ A17.out).mono ?_); rintro e w' ⟨rfl, ⟨nd, rfl⟩⟩))
                    go_roundg k2
                    case measure => have := HJ1.out; have := HK2.out; omega
                    case rel => exact ⟨(wrap64 (x3_2 + 1)), (by first | rfl | (simp; done) | (simp [*]; done)), H', ⟨by have := HJ1.out; have := HK2.out; omega⟩, ⟨bk_ BK105.out⟩, ⟨hb1_ HB.out GE105.out⟩⟩
                  · replace c18 := Bool.eq_false_iff.mpr c18
                    subst c18
                    have H1 : (some false) = some r := by rw [if_neg (show ¬ (false = true) by decide)] at H; exact H
                    clear H
                    have H := H1
                    clear H1
                    obtain rfl := Option.some.inj H
                    have hcz20_0 := bc_ BK105.out 0 (.int .i64 a0_0) rfl
                    have hcz20_1 := bc_ BK105.out 1 (.int .i64 a0_1) rfl
                    have hcz20_2 := bc_ BK105.out 2 (.slice A0_2 l0_2.length c0_2) rfl
                    have hfz20_0 := blk_frozen BK105.out 0
                    have hfz20_1 := blk_frozen BK105.out 1
                    have hfz20_2 := blk_frozen BK105.out 2
                    have p109 : 0 ≤ (x3_2 : Int) := of_decide_eq_true (by first | (with_reducible assumption) | assumption)
                    have q109 : x3_2 < (l0_2.length : Int) := of_decide_eq_true (by first | (with_reducible assumption) | assumption)
                    obtain ⟨ad109, e109, hx109_0, hx109_1⟩ := at_T78 HR0_2.out x3_2 p109 q109
                    cases e109
                    replace hx109_0 := (HB.out.cell (World.block_lt_of_cell? w _ hx109_0)).trans hx109_0
                    replace hx109_1 := (HB.out.cell (World.block_lt_of_cell? w _ hx109_1)).trans hx109_1
                    replace p109 := eq_true p109
                    replace q109 := eq_true q109
                    go_wp2_with (first | ((with_reducible refine gate_callee (f := 52) rfl ?_); refine goesL_ (some 34) rfl rfl Try.func52 (by kernel_rfl) rfl #[.int .i64 ((rd_T78 l0_2 x3_2).f0)] rfl arr_ ?_; (with_reducible refine (spec_l4Node.calls ((rd_T78 l0_2 x3_2).f0) true _ A15.out).mono ?_); rintro e w' ⟨rfl, ⟨nd, rfl⟩⟩; refine ⟨_, rfl, ?_⟩; have p111 : 0 ≤ (x3_2 : Int) := of_decide_eq_true (by first | (with_reducible assumption) | assumption); have q111 : x3_2 < (l0_2.length : Int) := of_decide_eq_true (by first | (with_reducible assumption) | assumption); obtain ⟨ad111, e111, hx111_0, hx111_1⟩ := at_T78 HR0_2.out x3_2 p111 q111; obtain rfl : ad109 = ad111 := (by injection e111); replace hx111_0 := (HB.out.cell (World.block_lt_of_cell? w _ hx111_0)).trans hx111_0; replace hx111_1 := (HB.out.cell (World.block_lt_of_cell? w _ hx111_1)).trans hx111_1; replace p111 := eq_true p111; replace q111 := eq_true q111) | (go_at_call 51; (with_reducible refine (spec_l1In.calls ((rd_T78 l0_2 x3_2).f1) 1 1000000 false _ A17.out).mono ?_); rintro e w' ⟨rfl, ⟨nd, rfl⟩⟩))
                    go_ret
                    exact ⟨er_, hb1_ HB.out GE105.out⟩
                · replace c16 := Bool.eq_false_iff.mpr c16
                  subst c16
                  have H1 : (some false) = some r := by rw [if_neg (show ¬ (false = true) by decide)] at H; exact H
                  clear H
                  have H := H1
                  clear H1
                  obtain rfl := Option.some.inj H
                  have hcz21_0 := bc_ BK105.out 0 (.int .i64 a0_0) rfl
                  have hcz21_1 := bc_ BK105.out 1 (.int .i64 a0_1) rfl
                  have hcz21_2 := bc_ BK105.out 2 (.slice A0_2 l0_2.length c0_2) rfl
                  have hfz21_0 := blk_frozen BK105.out 0
                  have hfz21_1 := blk_frozen BK105.out 1
                  have hfz21_2 := blk_frozen BK105.out 2
                  have p109 : 0 ≤ (x3_2 : Int) := of_decide_eq_true (by first | (with_reducible assumption) | assumption)
                  have q109 : x3_2 < (l0_2.length : Int) := of_decide_eq_true (by first | (with_reducible assumption) | assumption)
                  obtain ⟨ad109, e109, hx109_0, hx109_1⟩ := at_T78 HR0_2.out x3_2 p109 q109
                  cases e109
                  replace hx109_0 := (HB.out.cell (World.block_lt_of_cell? w _ hx109_0)).trans hx109_0
                  replace hx109_1 := (HB.out.cell (World.block_lt_of_cell? w _ hx109_1)).trans hx109_1
                  replace p109 := eq_true p109
                  replace q109 := eq_true q109
                  go_wp2_with (first | ((with_reducible refine gate_callee (f := 52) rfl ?_); refine goesL_ (some 34) rfl rfl Try.func52 (by kernel_rfl) rfl #[.int .i64 ((rd_T78 l0_2 x3_2).f0)] rfl arr_ ?_; (with_reducible refine (spec_l4Node.calls ((rd_T78 l0_2 x3_2).f0) false _ A15.out).mono ?_); rintro e w' ⟨rfl, ⟨nd, rfl⟩⟩; refine ⟨_, rfl, ?_⟩))
                  go_ret
                  exact ⟨er_, hb1_ HB.out GE105.out⟩
              · rw [if_neg c14] at H
                exact absurd H (by simp)
            · rw [if_neg c13] at H
              have c13b0 : decide (x3_2 < (l0_2.length : Int)) = false := decide_eq_false c13
              clear c13
              obtain rfl := Option.some.inj H
              have hcz22_0 := bc_ BK105.out 0 (.int .i64 a0_0) rfl
              have hcz22_1 := bc_ BK105.out 1 (.int .i64 a0_1) rfl
              have hcz22_2 := bc_ BK105.out 2 (.slice A0_2 l0_2.length c0_2) rfl
              have hfz22_0 := blk_frozen BK105.out 0
              have hfz22_1 := blk_frozen BK105.out 1
              have hfz22_2 := blk_frozen BK105.out 2
              go_wp2
              go_ret
              exact ⟨er_, hb1_ HB.out GE105.out⟩
end Go.Proofs.Ytcbglmoeogbakaa.P

namespace Go.Proofs.Ytcbglmoeogbakaa.P
open Go.RowKit Go.Proofs.YtcbglmoeogbakaaW.PrintWords Go.Proofs.YtcbglmoeogbakaaW.PrintLast Go.Proofs.YtcbglmoeogbakaaW.PrintMore
attribute [local go_sem] max2_int min2_int max_two min_two max_three min_three max_four min_four
set_option linter.unusedVariables false
set_option linter.unusedSimpArgs false
def spec_DriftOk.f (a0_0 : Int) (a0_1 : Int) : Option (Bool) := (spec_l1In.f a0_1 1 1000000).bind fun t767 => (if t767 = true then ((spec_l1In.f a0_0 0 a0_1).bind fun t768 => (if t768 = true then (some (decide ((wrap64 (2 * a0_0)) ≤ a0_1))) else (some false))) else (some false))
set_option maxHeartbeats 8000000 in
set_option maxRecDepth 100000 in
theorem spec_DriftOk.calls (a0_0 : Int) (a0_1 : Int) (r : Bool) (w : World) (h : spec_DriftOk.f a0_0 a0_1 = some r) :
    Calls Try.prog 69 #[.agg #[.int .i64 a0_0, .int .i64 a0_1]] w fun e w' => e = .returned (.bool r) ∧ Below w.heap.size w w' := by
  have hu70 := Try.underlying70
  have HB := Aside0.mk (Below.refl w.heap.size w)
  have H : ((spec_l1In.f a0_1 1 1000000).bind fun t767 => (if t767 = true then ((spec_l1In.f a0_0 0 a0_1).bind fun t768 => (if t768 = true then (some (decide ((wrap64 (2 * a0_0)) ≤ a0_1))) else (some false))) else (some false))) = some r := h
  clear h
  replace H := Option.bind_eq_some_iff.mp H
  obtain ⟨t767, A20, H⟩ := H
  replace H : (if t767 = true then ((spec_l1In.f a0_0 0 a0_1).bind fun t768 => (if t768 = true then (some (decide ((wrap64 (2 * a0_0)) ≤ a0_1))) else (some false))) else (some false)) = some r := H
  have A2 := Aside0.mk A20
  clear A20
  by_cases c3 : t767 = true
  · subst c3
    have H1 : ((spec_l1In.f a0_0 0 a0_1).bind fun t768 => (if t768 = true then (some (decide ((wrap64 (2 * a0_0)) ≤ a0_1))) else (some false))) = some r := by rw [if_pos rfl] at H; exact H
    clear H
    have H := H1
    clear H1
    replace H := Option.bind_eq_some_iff.mp H
    obtain ⟨t768, A40, H⟩ := H
    replace H : (if t768 = true then (some (decide ((wrap64 (2 * a0_0)) ≤ a0_1))) else (some false)) = some r := H
    have A4 := Aside0.mk A40
    clear A40
    by_cases c5 : t768 = true
    · subst c5
      have H1 : (some (decide ((wrap64 (2 * a0_0)) ≤ a0_1))) = some r := by rw [if_pos rfl] at H; exact H
      clear H
      have H := H1
      clear H1
      obtain rfl := Option.some.inj H
      go_enter Try.func69, Try.ntmps69
      go_wp2_with (first | ((with_reducible refine gate_dst (N := 1) rfl ?_); refine box_event ?hg (N := 1) ?hd (cs := #[.int .i64 a0_0, .int .i64 a0_1]) (t := 70) ?hr ?_; (case hd => rfl); (case hg => rfl); (case hr => first | (go_simp; done) | (go_simp; rfl)); intro gb766 hg w6 hbox hb; have n0_ := Aside0.mk (below_step (hb_ HB.out) hb); have n1_ := Aside0.mk (hbox); have n2_ := Aside0.mk ((by rw [hg]; exact (below_size (hb_ HB.out)) : w.heap.size ≤ gb766)); have n3_ := Aside0.mk ((by rw [hg]; exact (below_size (hb_ HB.out)) : w.heap.size ≤ gb766)); clear HB; have HB := n0_; have BK766 := n1_; have GW766 := n2_; have GE766 := n3_; clear n0_ n1_ n2_ n3_; clear hb hbox hg; have hcz7_0 := bc_ BK766.out 0 (.int .i64 a0_0) rfl; have hcz7_1 := bc_ BK766.out 1 (.int .i64 a0_1) rfl; have hfz7_0 := blk_frozen BK766.out 0; have hfz7_1 := blk_frozen BK766.out 1) | ((with_reducible refine gate_callee (f := 51) rfl ?_); refine goesL_ (some 5) rfl rfl Try.func51 (by kernel_rfl) rfl #[.int .i64 a0_1, .int .i64 1, .int .i64 1000000] rfl arr_ ?_; (with_reducible refine (spec_l1In.calls a0_1 1 1000000 true _ A2.out).mono ?_); rintro e w' ⟨rfl, ⟨nd, rfl⟩⟩; refine ⟨_, rfl, ?_⟩) | (go_at_call 51; (with_reducible refine (spec_l1In.calls a0_0 0 a0_1 true _ A4.out).mono ?_); rintro e w' ⟨rfl, ⟨nd, rfl⟩⟩))
      go_ret
      exact ⟨er_, hb1_ HB.out GE766.out⟩
    · replace c5 := Bool.eq_false_iff.mpr c5
      subst c5
      have H1 : (some false) = some r := by rw [if_neg (show ¬ (false = true) by decide)] at H; exact H
      clear H
      have H := H1
      clear H1
      obtain rfl := Option.some.inj H
      go_enter Try.func69, Try.ntmps69
      go_wp2_with (first | ((with_reducible refine gate_dst (N := 1) rfl ?_); refine box_event ?hg (N := 1) ?hd (cs := #[.int .i64 a0_0, .int .i64 a0_1]) (t := 70) ?hr ?_; (case hd => rfl); (case hg => rfl); (case hr => first | (go_simp; done) | (go_simp; rfl)); intro gb766 hg w8 hbox hb; have n0_ := Aside0.mk (below_step (hb_ HB.out) hb); have n1_ := Aside0.mk (hbox); have n2_ := Aside0.mk ((by rw [hg]; exact (below_size (hb_ HB.out)) : w.heap.size ≤ gb766)); have n3_ := Aside0.mk ((by rw [hg]; exact (below_size (hb_ HB.out)) : w.heap.size ≤ gb766)); clear HB; have HB := n0_; have BK766 := n1_; have GW766 := n2_; have GE766 := n3_; clear n0_ n1_ n2_ n3_; clear hb hbox hg; have hcz9_0 := bc_ BK766.out 0 (.int .i64 a0_0) rfl; have hcz9_1 := bc_ BK766.out 1 (.int .i64 a0_1) rfl; have hfz9_0 := blk_frozen BK766.out 0; have hfz9_1 := blk_frozen BK766.out 1) | ((with_reducible refine gate_callee (f := 51) rfl ?_); refine goesL_ (some 5) rfl rfl Try.func51 (by kernel_rfl) rfl #[.int .i64 a0_1, .int .i64 1, .int .i64 1000000] rfl arr_ ?_; (with_reducible refine (spec_l1In.calls a0_1 1 1000000 true _ A2.out).mono ?_); rintro e w' ⟨rfl, ⟨nd, rfl⟩⟩; refine ⟨_, rfl, ?_⟩) | (go_at_call 51; (with_reducible refine (spec_l1In.calls a0_0 0 a0_1 false _ A4.out).mono ?_); rintro e w' ⟨rfl, ⟨nd, rfl⟩⟩))
      go_ret
      exact ⟨er_, hb1_ HB.out GE766.out⟩
  · replace c3 := Bool.eq_false_iff.mpr c3
    subst c3
    have H1 : (some false) = some r := by rw [if_neg (show ¬ (false = true) by decide)] at H; exact H
    clear H
    have H := H1
    clear H1
    obtain rfl := Option.some.inj H
    go_enter Try.func69, Try.ntmps69
    go_wp2_with (first | ((with_reducible refine gate_dst (N := 1) rfl ?_); refine box_event ?hg (N := 1) ?hd (cs := #[.int .i64 a0_0, .int .i64 a0_1]) (t := 70) ?hr ?_; (case hd => rfl); (case hg => rfl); (case hr => first | (go_simp; done) | (go_simp; rfl)); intro gb766 hg w10 hbox hb; have n0_ := Aside0.mk (below_step (hb_ HB.out) hb); have n1_ := Aside0.mk (hbox); have n2_ := Aside0.mk ((by rw [hg]; exact (below_size (hb_ HB.out)) : w.heap.size ≤ gb766)); have n3_ := Aside0.mk ((by rw [hg]; exact (below_size (hb_ HB.out)) : w.heap.size ≤ gb766)); clear HB; have HB := n0_; have BK766 := n1_; have GW766 := n2_; have GE766 := n3_; clear n0_ n1_ n2_ n3_; clear hb hbox hg; have hcz11_0 := bc_ BK766.out 0 (.int .i64 a0_0) rfl; have hcz11_1 := bc_ BK766.out 1 (.int .i64 a0_1) rfl; have hfz11_0 := blk_frozen BK766.out 0; have hfz11_1 := blk_frozen BK766.out 1) | ((with_reducible refine gate_callee (f := 51) rfl ?_); refine goesL_ (some 5) rfl rfl Try.func51 (by kernel_rfl) rfl #[.int .i64 a0_1, .int .i64 1, .int .i64 1000000] rfl arr_ ?_; (with_reducible refine (spec_l1In.calls a0_1 1 1000000 false _ A2.out).mono ?_); rintro e w' ⟨rfl, ⟨nd, rfl⟩⟩; refine ⟨_, rfl, ?_⟩))
    go_ret
    exact ⟨er_, hb1_ HB.out GE766.out⟩
def spec_CfgOk.f (k : Nat) (a0_0 : Int) (a0_1 : Int) (a0_2 : Int) (a0_3 : Int) (a0_4 : Int) (a0_5 : Int) (a0_6 : Int) (a0_7 : Int) (a0_8 : Int) (a0_9 : Int) (l0_10 : List (S78)) : Option (Bool) := (spec_DriftOk.f a0_0 a0_1).bind fun t770 => (if t770 = true then ((spec_PlanOk.f k a0_8 a0_9 l0_10).bind fun t771 => (if t771 = true then ((spec_l1In.f a0_2 0 8).bind fun t772 => (if t772 = true then ((spec_l1In.f a0_3 1 8).bind fun t773 => (if t773 = true then ((spec_l2Time.f a0_4).bind fun t774 => (if t774 = true then ((spec_l2Time.f a0_5).bind fun t775 => (if t775 = true then ((spec_l2Time.f a0_6).bind fun t776 => (if t776 = true then ((spec_l1In.f a0_7 1 1000000).bind fun t777 => (some t777)) else (some false))) else (some false))) else (some false))) else (some false))) else (some false))) else (some false))) else (some false))
theorem spec_CfgOk.mono : ∀ a0 a1 a2 a3 a4 a5 a6 a7 a8 a9 a10 k, LeO (spec_CfgOk.f k a0 a1 a2 a3 a4 a5 a6 a7 a8 a9 a10) (spec_CfgOk.f (k + 1) a0 a1 a2 a3 a4 a5 a6 a7 a8 a9 a10) := by
  intro a0 a1 a2 a3 a4 a5 a6 a7 a8 a9 a10 k
  unfold spec_CfgOk.f
  repeat' first
      | (with_reducible exact spec_PlanOk.mono _ _ _ _)
      | (with_reducible exact LeO.refl _)
      | (with_reducible exact LeO.none _)
      | (with_reducible refine LeO.ite ?_ ?_)
      | (with_reducible refine LeO.bind ?_ (fun _ => ?_))
      | exact spec_PlanOk.mono _ _ _ _
      | exact LeO.none _
      | refine LeO.ite ?_ ?_
      | refine LeO.bind ?_ (fun _ => ?_)
set_option maxHeartbeats 8000000 in
set_option maxRecDepth 100000 in
theorem spec_CfgOk.calls (k : Nat) (a0_0 : Int) (a0_1 : Int) (a0_2 : Int) (a0_3 : Int) (a0_4 : Int) (a0_5 : Int) (a0_6 : Int) (a0_7 : Int) (a0_8 : Int) (a0_9 : Int) (A0_10 : Option Addr) (c0_10 : Nat) (l0_10 : List (S78)) (r : Bool) (w : World) (hr0_10 : Kd.C k78 w A0_10 l0_10.length l0_10) (hc0_10 : l0_10.length ≤ c0_10) (h : spec_CfgOk.f k a0_0 a0_1 a0_2 a0_3 a0_4 a0_5 a0_6 a0_7 a0_8 a0_9 l0_10 = some r) :
    Calls Try.prog 34 #[.agg #[.int .i64 a0_0, .int .i64 a0_1, .int .i64 a0_2, .int .i64 a0_3, .int .i64 a0_4, .int .i64 a0_5, .int .i64 a0_6, .int .i64 a0_7, .int .i64 a0_8, .int .i64 a0_9, .slice A0_10 l0_10.length c0_10]] w fun e w' => e = .returned (.bool r) ∧ Below w.heap.size w w' := by
  have hu72 := Try.underlying72
  have hu70 := Try.underlying70
  have hu30 := Try.underlying30
  have HR0_10 := Aside0.mk hr0_10
  have HC0_10 := Aside0.mk hc0_10
  clear hr0_10 hc0_10
  have HB := Aside0.mk (Below.refl w.heap.size w)
  have H : ((spec_DriftOk.f a0_0 a0_1).bind fun t770 => (if t770 = true then ((spec_PlanOk.f k a0_8 a0_9 l0_10).bind fun t771 => (if t771 = true then ((spec_l1In.f a0_2 0 8).bind fun t772 => (if t772 = true then ((spec_l1In.f a0_3 1 8).bind fun t773 => (if t773 = true then ((spec_l2Time.f a0_4).bind fun t774 => (if t774 = true then ((spec_l2Time.f a0_5).bind fun t775 => (if t775 = true then ((spec_l2Time.f a0_6).bind fun t776 => (if t776 = true then ((spec_l1In.f a0_7 1 1000000).bind fun t777 => (some t777)) else (some false))) else (some false))) else (some false))) else (some false))) else (some false))) else (some false))) else (some false))) = some r := h
  clear h
  replace H := Option.bind_eq_some_iff.mp H
  obtain ⟨t770, A20, H⟩ := H
  replace H : (if t770 = true then ((spec_PlanOk.f k a0_8 a0_9 l0_10).bind fun t771 => (if t771 = true then ((spec_l1In.f a0_2 0 8).bind fun t772 => (if t772 = true then ((spec_l1In.f a0_3 1 8).bind fun t773 => (if t773 = true then ((spec_l2Time.f a0_4).bind fun t774 => (if t774 = true then ((spec_l2Time.f a0_5).bind fun t775 => (if t775 = true then ((spec_l2Time.f a0_6).bind fun t776 => (if t776 = true then ((spec_l1In.f a0_7 1 1000000).bind fun t777 => (some t777)) else (some false))) else (some false))) else (some false))) else (some false))) else (some false))) else (some false))) else (some false)) = some r := H
  have A2 := Aside0.mk A20
  clear A20
  by_cases c3 : t770 = true
  · subst c3
    have H1 : ((spec_PlanOk.f k a0_8 a0_9 l0_10).bind fun t771 => (if t771 = true then ((spec_l1In.f a0_2 0 8).bind fun t772 => (if t772 = true then ((spec_l1In.f a0_3 1 8).bind fun t773 => (if t773 = true then ((spec_l2Time.f a0_4).bind fun t774 => (if t774 = true then ((spec_l2Time.f a0_5).bind fun t775 => (if t775 = true then ((spec_l2Time.f a0_6).bind fun t776 => (if t776 = true then ((spec_l1In.f a0_7 1 1000000).bind fun t777 => (some t777)) else (some false))) else (some false))) else (some false))) else (some false))) else (some false))) else (some false))) = some r := by rw [if_pos rfl] at H; exact H
    clear H
    have H := H1
    clear H1
    replace H := Option.bind_eq_some_iff.mp H
    obtain ⟨t771, A40, H⟩ := H
    replace H : (if t771 = true then ((spec_l1In.f a0_2 0 8).bind fun t772 => (if t772 = true then ((spec_l1In.f a0_3 1 8).bind fun t773 => (if t773 = true then ((spec_l2Time.f a0_4).bind fun t774 => (if t774 = true then ((spec_l2Time.f a0_5).bind fun t775 => (if t775 = true then ((spec_l2Time.f a0_6).bind fun t776 => (if t776 = true then ((spec_l1In.f a0_7 1 1000000).bind fun t777 => (some t777)) else (some false))) else (some false))) else (some false))) else (some false))) else (some false))) else (some false)) = some r := H
    have A4 := Aside0.mk A40
    clear A40
    by_cases c5 : t771 = true
    · subst c5
      have H1 : ((spec_l1In.f a0_2 0 8).bind fun t772 => (if t772 = true then ((spec_l1In.f a0_3 1 8).bind fun t773 => (if t773 = true then ((spec_l2Time.f a0_4).bind fun t774 => (if t774 = true then ((spec_l2Time.f a0_5).bind fun t775 => (if t775 = true then ((spec_l2Time.f a0_6).bind fun t776 => (if t776 = true then ((spec_l1In.f a0_7 1 1000000).bind fun t777 => (some t777)) else (some false))) else (some false))) else (some false))) else (some false))) else (some false))) = some r := by rw [if_pos rfl] at H; exact H
      clear H
      have H := H1
      clear H1
      replace H := Option.bind_eq_some_iff.mp H
      obtain ⟨t772, A60, H⟩ := H
      replace H : (if t772 = true then ((spec_l1In.f a0_3 1 8).bind fun t773 => (if t773 = true then ((spec_l2Time.f a0_4).bind fun t774 => (if t774 = true then ((spec_l2Time.f a0_5).bind fun t775 => (if t775 = true then ((spec_l2Time.f a0_6).bind fun t776 => (if t776 = true then ((spec_l1In.f a0_7 1 1000000).bind fun t777 => (some t777)) else (some false))) else (some false))) else (some false))) else (some false))) else (some false)) = some r := H
      have A6 := Aside0.mk A60
      clear A60
      by_cases c7 : t772 = true
      · subst c7
        have H1 : ((spec_l1In.f a0_3 1 8).bind fun t773 => (if t773 = true then ((spec_l2Time.f a0_4).bind fun t774 => (if t774 = true then ((spec_l2Time.f a0_5).bind fun t775 => (if t775 = true then ((spec_l2Time.f a0_6).bind fun t776 => (if t776 = true then ((spec_l1In.f a0_7 1 1000000).bind fun t777 => (some t777)) else (some false))) else (some false))) else (some false))) else (some false))) = some r := by rw [if_pos rfl] at H; exact H
        clear H
        have H := H1
        clear H1
        replace H := Option.bind_eq_some_iff.mp H
        obtain ⟨t773, A80, H⟩ := H
        replace H : (if t773 = true then ((spec_l2Time.f a0_4).bind fun t774 => (if t774 = true then ((spec_l2Time.f a0_5).bind fun t775 => (if t775 = true then ((spec_l2Time.f a0_6).bind fun t776 => (if t776 = true then ((spec_l1In.f a0_7 1 1000000).bind fun t777 => (some t777)) else (some false))) else (some false))) else (some false))) else (some false)) = some r := H
        have A8 := Aside0.mk A80
        clear A80
        by_cases c9 : t773 = true
        · subst c9
          have H1 : ((spec_l2Time.f a0_4).bind fun t774 => (if t774 = true then ((spec_l2Time.f a0_5).bind fun t775 => (if t775 = true then ((spec_l2Time.f a0_6).bind fun t776 => (if t776 = true then ((spec_l1In.f a0_7 1 1000000).bind fun t777 => (some t777)) else (some false))) else (some false))) else (some false))) = some r := by rw [if_pos rfl] at H; exact H
          clear H
          have H := H1
          clear H1
          replace H := Option.bind_eq_some_iff.mp H
          obtain ⟨t774, A100, H⟩ := H
          replace H : (if t774 = true then ((spec_l2Time.f a0_5).bind fun t775 => (if t775 = true then ((spec_l2Time.f a0_6).bind fun t776 => (if t776 = true then ((spec_l1In.f a0_7 1 1000000).bind fun t777 => (some t777)) else (some false))) else (some false))) else (some false)) = some r := H
          have A10 := Aside0.mk A100
          clear A100
          by_cases c11 : t774 = true
          · subst c11
            have H1 : ((spec_l2Time.f a0_5).bind fun t775 => (if t775 = true then ((spec_l2Time.f a0_6).bind fun t776 => (if t776 = true then ((spec_l1In.f a0_7 1 1000000).bind fun t777 => (some t777)) else (some false))) else (some false))) = some r := by rw [if_pos rfl] at H; exact H
            clear H
            have H := H1
            clear H1
            replace H := Option.bind_eq_some_iff.mp H
            obtain ⟨t775, A120, H⟩ := H
            replace H : (if t775 = true then ((spec_l2Time.f a0_6).bind fun t776 => (if t776 = true then ((spec_l1In.f a0_7 1 1000000).bind fun t777 => (some t777)) else (some false))) else (some false)) = some r := H
            have A12 := Aside0.mk A120
            clear A120
            by_cases c13 : t775 = true
            · subst c13
              have H1 : ((spec_l2Time.f a0_6).bind fun t776 => (if t776 = true then ((spec_l1In.f a0_7 1 1000000).bind fun t777 => (some t777)) else (some false))) = some r := by rw [if_pos rfl] at H; exact H
              clear H
              have H := H1
              clear H1
              replace H := Option.bind_eq_some_iff.mp H
              obtain ⟨t776, A140, H⟩ := H
              replace H : (if t776 = true then ((spec_l1In.f a0_7 1 1000000).bind fun t777 => (some t777)) else (some false)) = some r := H
              have A14 := Aside0.mk A140
              clear A140
              by_cases c15 : t776 = true
              · subst c15
                have H1 : ((spec_l1In.f a0_7 1 1000000).bind fun t777 => (some t777)) = some r := by rw [if_pos rfl] at H; exact H
                clear H
                have H := H1
                clear H1
                replace H := Option.bind_eq_some_iff.mp H
                obtain ⟨t777, A160, H⟩ := H
                replace H : (some t777) = some r := H
                have A16 := Aside0.mk A160
                clear A160
                obtain rfl := Option.some.inj H
                go_enter Try.func34, Try.ntmps34
                go_wp2_with (first | ((with_reducible refine gate_dst (N := 1) rfl ?_); refine box_event ?hg (N := 1) ?hd (cs := #[.int .i64 a0_0, .int .i64 a0_1, .int .i64 a0_2, .int .i64 a0_3, .int .i64 a0_4, .int .i64 a0_5, .int .i64 a0_6, .int .i64 a0_7, .int .i64 a0_8, .int .i64 a0_9, .slice A0_10 l0_10.length c0_10]) (t := 72) ?hr ?_; (case hd => rfl); (case hg => rfl); (case hr => first | (go_simp; done) | (go_simp; rfl)); intro gb769 hg w17 hbox hb; have n0_ := Aside0.mk (below_step (hb_ HB.out) hb); have n1_ := Aside0.mk (hbox); have n2_ := Aside0.mk ((by rw [hg]; exact (below_size (hb_ HB.out)) : w.heap.size ≤ gb769)); have n3_ := Aside0.mk ((by rw [hg]; exact (below_size (hb_ HB.out)) : w.heap.size ≤ gb769)); clear HB; have HB := n0_; have BK769 := n1_; have GW769 := n2_; have GE769 := n3_; clear n0_ n1_ n2_ n3_; clear hb hbox hg; have hcz18_0 := bc_ BK769.out 0 (.int .i64 a0_0) rfl; have hcz18_1 := bc_ BK769.out 1 (.int .i64 a0_1) rfl; have hcz18_2 := bc_ BK769.out 2 (.int .i64 a0_2) rfl; have hcz18_3 := bc_ BK769.out 3 (.int .i64 a0_3) rfl; have hcz18_4 := bc_ BK769.out 4 (.int .i64 a0_4) rfl; have hcz18_5 := bc_ BK769.out 5 (.int .i64 a0_5) rfl; have hcz18_6 := bc_ BK769.out 6 (.int .i64 a0_6) rfl; have hcz18_7 := bc_ BK769.out 7 (.int .i64 a0_7) rfl; have hcz18_8 := bc_ BK769.out 8 (.int .i64 a0_8) rfl; have hcz18_9 := bc_ BK769.out 9 (.int .i64 a0_9) rfl; have hcz18_10 := bc_ BK769.out 10 (.slice A0_10 l0_10.length c0_10) rfl; have hfz18_0 := blk_frozen BK769.out 0; have hfz18_1 := blk_frozen BK769.out 1; have hfz18_2 := blk_frozen BK769.out 2; have hfz18_3 := blk_frozen BK769.out 3; have hfz18_4 := blk_frozen BK769.out 4; have hfz18_5 := blk_frozen BK769.out 5; have hfz18_6 := blk_frozen BK769.out 6; have hfz18_7 := blk_frozen BK769.out 7; have hfz18_8 := blk_frozen BK769.out 8; have hfz18_9 := blk_frozen BK769.out 9; have hfz18_10 := blk_frozen BK769.out 10) | ((with_reducible refine gate_callee (f := 69) rfl ?_); refine goesL_ (some 5) rfl rfl Try.func69 (by kernel_rfl) rfl #[.agg #[.int .i64 a0_0, .int .i64 a0_1]] rfl arr_ ?_; (with_reducible refine (spec_DriftOk.calls a0_0 a0_1 true _ A2.out).mono ?_); rintro e w19 ⟨rfl, hb⟩; refine ⟨_, rfl, ?_⟩; have n0_ := Aside0.mk (bb_ BK769.out hb); have n1_ := Aside0.mk (below_step (hb1_ HB.out GE769.out) hb); clear BK769; clear HB; have BK769 := n0_; have HB := n1_; clear n0_ n1_; (try clear hb); (try clear hb2); (try clear hk); (try clear hi); have hcz20_0 := bc_ BK769.out 0 (.int .i64 a0_0) rfl; have hcz20_1 := bc_ BK769.out 1 (.int .i64 a0_1) rfl; have hcz20_2 := bc_ BK769.out 2 (.int .i64 a0_2) rfl; have hcz20_3 := bc_ BK769.out 3 (.int .i64 a0_3) rfl; have hcz20_4 := bc_ BK769.out 4 (.int .i64 a0_4) rfl; have hcz20_5 := bc_ BK769.out 5 (.int .i64 a0_5) rfl; have hcz20_6 := bc_ BK769.out 6 (.int .i64 a0_6) rfl; have hcz20_7 := bc_ BK769.out 7 (.int .i64 a0_7) rfl; have hcz20_8 := bc_ BK769.out 8 (.int .i64 a0_8) rfl; have hcz20_9 := bc_ BK769.out 9 (.int .i64 a0_9) rfl; have hcz20_10 := bc_ BK769.out 10 (.slice A0_10 l0_10.length c0_10) rfl; have hfz20_0 := blk_frozen BK769.out 0; have hfz20_1 := blk_frozen BK769.out 1; have hfz20_2 := blk_frozen BK769.out 2; have hfz20_3 := blk_frozen BK769.out 3; have hfz20_4 := blk_frozen BK769.out 4; have hfz20_5 := blk_frozen BK769.out 5; have hfz20_6 := blk_frozen BK769.out 6; have hfz20_7 := blk_frozen BK769.out 7; have hfz20_8 := blk_frozen BK769.out 8; have hfz20_9 := blk_frozen BK769.out 9; have hfz20_10 := blk_frozen BK769.out 10) | (go_at_call 20; (with_reducible refine (spec_PlanOk.calls k a0_8 a0_9 _ _ l0_10 true _ ?side1 ?side2 A4.out).mono ?_); (case side1 => exact kc_ (Kd.C_below HR0_10.out HB.out)); (case side2 => exact HC0_10.out); rintro e w21 ⟨rfl, hb⟩; have n0_ := Aside0.mk (bb_ BK769.out hb); have n1_ := Aside0.mk (below_step (hb1_ HB.out GE769.out) hb); clear BK769; clear HB; have BK769 := n0_; have HB := n1_; clear n0_ n1_; (try clear hb); (try clear hb2); (try clear hk); (try clear hi); have hcz22_0 := bc_ BK769.out 0 (.int .i64 a0_0) rfl; have hcz22_1 := bc_ BK769.out 1 (.int .i64 a0_1) rfl; have hcz22_2 := bc_ BK769.out 2 (.int .i64 a0_2) rfl; have hcz22_3 := bc_ BK769.out 3 (.int .i64 a0_3) rfl; have hcz22_4 := bc_ BK769.out 4 (.int .i64 a0_4) rfl; have hcz22_5 := bc_ BK769.out 5 (.int .i64 a0_5) rfl; have hcz22_6 := bc_ BK769.out 6 (.int .i64 a0_6) rfl; have hcz22_7 := bc_ BK769.out 7 (.int .i64 a0_7) rfl; have hcz22_8 := bc_ BK769.out 8 (.int .i64 a0_8) rfl; have hcz22_9 := bc_ BK769.out 9 (.int .i64 a0_9) rfl; have hcz22_10 := bc_ BK769.out 10 (.slice A0_10 l0_10.length c0_10) rfl; have hfz22_0 := blk_frozen BK769.out 0; have hfz22_1 := blk_frozen BK769.out 1; have hfz22_2 := blk_frozen BK769.out 2; have hfz22_3 := blk_frozen BK769.out 3; have hfz22_4 := blk_frozen BK769.out 4; have hfz22_5 := blk_frozen BK769.out 5; have hfz22_6 := blk_frozen BK769.out 6; have hfz22_7 := blk_frozen BK769.out 7; have hfz22_8 := blk_frozen BK769.out 8; have hfz22_9 := blk_frozen BK769.out 9; have hfz22_10 := blk_frozen BK769.out 10) | (go_at_call 51; (with_reducible refine (spec_l1In.calls a0_2 0 8 true _ A6.out).mono ?_); rintro e w' ⟨rfl, ⟨nd, rfl⟩⟩) | (go_at_call 51; (with_reducible refine (spec_l1In.calls a0_3 1 8 true _ A8.out).mono ?_); rintro e w' ⟨rfl, ⟨nd, rfl⟩⟩) | (go_at_call 50; (with_reducible refine (spec_l2Time.calls a0_4 true _ A10.out).mono ?_); rintro e w' ⟨rfl, ⟨nd, rfl⟩⟩) | (go_at_call 50; (with_reducible refine (spec_l2Time.calls a0_5 true _ A12.out).mono ?_); rintro e w' ⟨rfl, ⟨nd, rfl⟩⟩) | (go_at_call 50; (with_reducible refine (spec_l2Time.calls a0_6 true _ A14.out).mono ?_); rintro e w' ⟨rfl, ⟨nd, rfl⟩⟩) | (go_at_call 51; (with_reducible refine (spec_l1In.calls a0_7 1 1000000 t777 _ A16.out).mono ?_); rintro e w' ⟨rfl, ⟨nd, rfl⟩⟩))
                go_ret
                exact ⟨er_, hb1_ HB.out GE769.out⟩
              · replace c15 := Bool.eq_false_iff.mpr c15
                subst c15
                have H1 : (some false) = some r := by rw [if_neg (show ¬ (false = true) by decide)] at H; exact H
                clear H
                have H := H1
                clear H1
                obtain rfl := Option.some.inj H
                go_enter Try.func34, Try.ntmps34
                go_wp2_with (first | ((with_reducible refine gate_dst (N := 1) rfl ?_); refine box_event ?hg (N := 1) ?hd (cs := #[.int .i64 a0_0, .int .i64 a0_1, .int .i64 a0_2, .int .i64 a0_3, .int .i64 a0_4, .int .i64 a0_5, .int .i64 a0_6, .int .i64 a0_7, .int .i64 a0_8, .int .i64 a0_9, .slice A0_10 l0_10.length c0_10]) (t := 72) ?hr ?_; (case hd => rfl); (case hg => rfl); (case hr => first | (go_simp; done) | (go_simp; rfl)); intro gb769 hg w23 hbox hb; have n0_ := Aside0.mk (below_step (hb_ HB.out) hb); have n1_ := Aside0.mk (hbox); have n2_ := Aside0.mk ((by rw [hg]; exact (below_size (hb_ HB.out)) : w.heap.size ≤ gb769)); have n3_ := Aside0.mk ((by rw [hg]; exact (below_size (hb_ HB.out)) : w.heap.size ≤ gb769)); clear HB; have HB := n0_; have BK769 := n1_; have GW769 := n2_; have GE769 := n3_; clear n0_ n1_ n2_ n3_; clear hb hbox hg; have hcz24_0 := bc_ BK769.out 0 (.int .i64 a0_0) rfl; have hcz24_1 := bc_ BK769.out 1 (.int .i64 a0_1) rfl; have hcz24_2 := bc_ BK769.out 2 (.int .i64 a0_2) rfl; have hcz24_3 := bc_ BK769.out 3 (.int .i64 a0_3) rfl; have hcz24_4 := bc_ BK769.out 4 (.int .i64 a0_4) rfl; have hcz24_5 := bc_ BK769.out 5 (.int .i64 a0_5) rfl; have hcz24_6 := bc_ BK769.out 6 (.int .i64 a0_6) rfl; have hcz24_7 := bc_ BK769.out 7 (.int .i64 a0_7) rfl; have hcz24_8 := bc_ BK769.out 8 (.int .i64 a0_8) rfl; have hcz24_9 := bc_ BK769.out 9 (.int .i64 a0_9) rfl; have hcz24_10 := bc_ BK769.out 10 (.slice A0_10 l0_10.length c0_10) rfl; have hfz24_0 := blk_frozen BK769.out 0; have hfz24_1 := blk_frozen BK769.out 1; have hfz24_2 := blk_frozen BK769.out 2; have hfz24_3 := blk_frozen BK769.out 3; have hfz24_4 := blk_frozen BK769.out 4; have hfz24_5 := blk_frozen BK769.out 5; have hfz24_6 := blk_frozen BK769.out 6; have hfz24_7 := blk_frozen BK769.out 7; have hfz24_8 := blk_frozen BK769.out 8; have hfz24_9 := blk_frozen BK769.out 9; have hfz24_10 := blk_frozen BK769.out 10) | ((with_reducible refine gate_callee (f := 69) rfl ?_); refine goesL_ (some 5) rfl rfl Try.func69 (by kernel_rfl) rfl #[.agg #[.int .i64 a0_0, .int .i64 a0_1]] rfl arr_ ?_; (with_reducible refine (spec_DriftOk.calls a0_0 a0_1 true _ A2.out).mono ?_); rintro e w25 ⟨rfl, hb⟩; refine ⟨_, rfl, ?_⟩; have n0_ := Aside0.mk (bb_ BK769.out hb); have n1_ := Aside0.mk (below_step (hb1_ HB.out GE769.out) hb); clear BK769; clear HB; have BK769 := n0_; have HB := n1_; clear n0_ n1_; (try clear hb); (try clear hb2); (try clear hk); (try clear hi); have hcz26_0 := bc_ BK769.out 0 (.int .i64 a0_0) rfl; have hcz26_1 := bc_ BK769.out 1 (.int .i64 a0_1) rfl; have hcz26_2 := bc_ BK769.out 2 (.int .i64 a0_2) rfl; have hcz26_3 := bc_ BK769.out 3 (.int .i64 a0_3) rfl; have hcz26_4 := bc_ BK769.out 4 (.int .i64 a0_4) rfl; have hcz26_5 := bc_ BK769.out 5 (.int .i64 a0_5) rfl; have hcz26_6 := bc_ BK769.out 6 (.int .i64 a0_6) rfl; have hcz26_7 := bc_ BK769.out 7 (.int .i64 a0_7) rfl; have hcz26_8 := bc_ BK769.out 8 (.int .i64 a0_8) rfl; have hcz26_9 := bc_ BK769.out 9 (.int .i64 a0_9) rfl; have hcz26_10 := bc_ BK769.out 10 (.slice A0_10 l0_10.length c0_10) rfl; have hfz26_0 := blk_frozen BK769.out 0; have hfz26_1 := blk_frozen BK769.out 1; have hfz26_2 := blk_frozen BK769.out 2; have hfz26_3 := blk_frozen BK769.out 3; have hfz26_4 := blk_frozen BK769.out 4; have hfz26_5 := blk_frozen BK769.out 5; have hfz26_6 := blk_frozen BK769.out 6; have hfz26_7 := blk_frozen BK769.out 7; have hfz26_8 := blk_frozen BK769.out 8; have hfz26_9 := blk_frozen BK769.out 9; have hfz26_10 := blk_frozen BK769.out 10) | (go_at_call 20; (with_reducible refine (spec_PlanOk.calls k a0_8 a0_9 _ _ l0_10 true _ ?side1 ?side2 A4.out).mono ?_); (case side1 => exact kc_ (Kd.C_below HR0_10.out HB.out)); (case side2 => exact HC0_10.out); rintro e w27 ⟨rfl, hb⟩; have n0_ := Aside0.mk (bb_ BK769.out hb); have n1_ := Aside0.mk (below_step (hb1_ HB.out GE769.out) hb); clear BK769; clear HB; have BK769 := n0_; have HB := n1_; clear n0_ n1_; (try clear hb); (try clear hb2); (try clear hk); (try clear hi); have hcz28_0 := bc_ BK769.out 0 (.int .i64 a0_0) rfl; have hcz28_1 := bc_ BK769.out 1 (.int .i64 a0_1) rfl; have hcz28_2 := bc_ BK769.out 2 (.int .i64 a0_2) rfl; have hcz28_3 := bc_ BK769.out 3 (.int .i64 a0_3) rfl; have hcz28_4 := bc_ BK769.out 4 (.int .i64 a0_4) rfl; have hcz28_5 := bc_ BK769.out 5 (.int .i64 a0_5) rfl; have hcz28_6 := bc_ BK769.out 6 (.int .i64 a0_6) rfl; have hcz28_7 := bc_ BK769.out 7 (.int .i64 a0_7) rfl; have hcz28_8 := bc_ BK769.out 8 (.int .i64 a0_8) rfl; have hcz28_9 := bc_ BK769.out 9 (.int .i64 a0_9) rfl; have hcz28_10 := bc_ BK769.out 10 (.slice A0_10 l0_10.length c0_10) rfl; have hfz28_0 := blk_frozen BK769.out 0; have hfz28_1 := blk_frozen BK769.out 1; have hfz28_2 := blk_frozen BK769.out 2; have hfz28_3 := blk_frozen BK769.out 3; have hfz28_4 := blk_frozen BK769.out 4; have hfz28_5 := blk_frozen BK769.out 5; have hfz28_6 := blk_frozen BK769.out 6; have hfz28_7 := blk_frozen BK769.out 7; have hfz28_8 := blk_frozen BK769.out 8; have hfz28_9 := blk_frozen BK769.out 9; have hfz28_10 := blk_frozen BK769.out 10) | (go_at_call 51; (with_reducible refine (spec_l1In.calls a0_2 0 8 true _ A6.out).mono ?_); rintro e w' ⟨rfl, ⟨nd, rfl⟩⟩) | (go_at_call 51; (with_reducible refine (spec_l1In.calls a0_3 1 8 true _ A8.out).mono ?_); rintro e w' ⟨rfl, ⟨nd, rfl⟩⟩) | (go_at_call 50; (with_reducible refine (spec_l2Time.calls a0_4 true _ A10.out).mono ?_); rintro e w' ⟨rfl, ⟨nd, rfl⟩⟩) | (go_at_call 50; (with_reducible refine (spec_l2Time.calls a0_5 true _ A12.out).mono ?_); rintro e w' ⟨rfl, ⟨nd, rfl⟩⟩) | (go_at_call 50; (with_reducible refine (spec_l2Time.calls a0_6 false _ A14.out).mono ?_); rintro e w' ⟨rfl, ⟨nd, rfl⟩⟩))
                go_ret
                exact ⟨er_, hb1_ HB.out GE769.out⟩
            · replace c13 := Bool.eq_false_iff.mpr c13
              subst c13
              have H1 : (some false) = some r := by rw [if_neg (show ¬ (false = true) by decide)] at H; exact H
              clear H
              have H := H1
              clear H1
              obtain rfl := Option.some.inj H
              go_enter Try.func34, Try.ntmps34
              go_wp2_with (first | ((with_reducible refine gate_dst (N := 1) rfl ?_); refine box_event ?hg (N := 1) ?hd (cs := #[.int .i64 a0_0, .int .i64 a0_1, .int .i64 a0_2, .int .i64 a0_3, .int .i64 a0_4, .int .i64 a0_5, .int .i64 a0_6, .int .i64 a0_7, .int .i64 a0_8, .int .i64 a0_9, .slice A0_10 l0_10.length c0_10]) (t := 72) ?hr ?_; (case hd => rfl); (case hg => rfl); (case hr => first | (go_simp; done) | (go_simp; rfl)); intro gb769 hg w29 hbox hb; have n0_ := Aside0.mk (below_step (hb_ HB.out) hb); have n1_ := Aside0.mk (hbox); have n2_ := Aside0.mk ((by rw [hg]; exact (below_size (hb_ HB.out)) : w.heap.size ≤ gb769)); have n3_ := Aside0.mk ((by rw [hg]; exact (below_size (hb_ HB.out)) : w.heap.size ≤ gb769)); clear HB; have HB := n0_; have BK769 := n1_; have GW769 := n2_; have GE769 := n3_; clear n0_ n1_ n2_ n3_; clear hb hbox hg; have hcz30_0 := bc_ BK769.out 0 (.int .i64 a0_0) rfl; have hcz30_1 := bc_ BK769.out 1 (.int .i64 a0_1) rfl; have hcz30_2 := bc_ BK769.out 2 (.int .i64 a0_2) rfl; have hcz30_3 := bc_ BK769.out 3 (.int .i64 a0_3) rfl; have hcz30_4 := bc_ BK769.out 4 (.int .i64 a0_4) rfl; have hcz30_5 := bc_ BK769.out 5 (.int .i64 a0_5) rfl; have hcz30_6 := bc_ BK769.out 6 (.int .i64 a0_6) rfl; have hcz30_7 := bc_ BK769.out 7 (.int .i64 a0_7) rfl; have hcz30_8 := bc_ BK769.out 8 (.int .i64 a0_8) rfl; have hcz30_9 := bc_ BK769.out 9 (.int .i64 a0_9) rfl; have hcz30_10 := bc_ BK769.out 10 (.slice A0_10 l0_10.length c0_10) rfl; have hfz30_0 := blk_frozen BK769.out 0; have hfz30_1 := blk_frozen BK769.out 1; have hfz30_2 := blk_frozen BK769.out 2; have hfz30_3 := blk_frozen BK769.out 3; have hfz30_4 := blk_frozen BK769.out 4; have hfz30_5 := blk_frozen BK769.out 5; have hfz30_6 := blk_frozen BK769.out 6; have hfz30_7 := blk_frozen BK769.out 7; have hfz30_8 := blk_frozen BK769.out 8; have hfz30_9 := blk_frozen BK769.out 9; have hfz30_10 := blk_frozen BK769.out 10) | ((with_reducible refine gate_callee (f := 69) rfl ?_); refine goesL_ (some 5) rfl rfl Try.func69 (by kernel_rfl) rfl #[.agg #[.int .i64 a0_0, .int .i64 a0_1]] rfl arr_ ?_; (with_reducible refine (spec_DriftOk.calls a0_0 a0_1 true _ A2.out).mono ?_); rintro e w31 ⟨rfl, hb⟩; refine ⟨_, rfl, ?_⟩; have n0_ := Aside0.mk (bb_ BK769.out hb); have n1_ := Aside0.mk (below_step (hb1_ HB.out GE769.out) hb); clear BK769; clear HB; have BK769 := n0_; have HB := n1_; clear n0_ n1_; (try clear hb); (try clear hb2); (try clear hk); (try clear hi); have hcz32_0 := bc_ BK769.out 0 (.int .i64 a0_0) rfl; have hcz32_1 := bc_ BK769.out 1 (.int .i64 a0_1) rfl; have hcz32_2 := bc_ BK769.out 2 (.int .i64 a0_2) rfl; have hcz32_3 := bc_ BK769.out 3 (.int .i64 a0_3) rfl; have hcz32_4 := bc_ BK769.out 4 (.int .i64 a0_4) rfl; have hcz32_5 := bc_ BK769.out 5 (.int .i64 a0_5) rfl; have hcz32_6 := bc_ BK769.out 6 (.int .i64 a0_6) rfl; have hcz32_7 := bc_ BK769.out 7 (.int .i64 a0_7) rfl; have hcz32_8 := bc_ BK769.out 8 (.int .i64 a0_8) rfl; have hcz32_9 := bc_ BK769.out 9 (.int .i64 a0_9) rfl; have hcz32_10 := bc_ BK769.out 10 (.slice A0_10 l0_10.length c0_10) rfl; have hfz32_0 := blk_frozen BK769.out 0; have hfz32_1 := blk_frozen BK769.out 1; have hfz32_2 := blk_frozen BK769.out 2; have hfz32_3 := blk_frozen BK769.out 3; have hfz32_4 := blk_frozen BK769.out 4; have hfz32_5 := blk_frozen BK769.out 5; have hfz32_6 := blk_frozen BK769.out 6; have hfz32_7 := blk_frozen BK769.out 7; have hfz32_8 := blk_frozen BK769.out 8; have hfz32_9 := blk_frozen BK769.out 9; have hfz32_10 := blk_frozen BK769.out 10) | (go_at_call 20; (with_reducible refine (spec_PlanOk.calls k a0_8 a0_9 _ _ l0_10 true _ ?side1 ?side2 A4.out).mono ?_); (case side1 => exact kc_ (Kd.C_below HR0_10.out HB.out)); (case side2 => exact HC0_10.out); rintro e w33 ⟨rfl, hb⟩; have n0_ := Aside0.mk (bb_ BK769.out hb); have n1_ := Aside0.mk (below_step (hb1_ HB.out GE769.out) hb); clear BK769; clear HB; have BK769 := n0_; have HB := n1_; clear n0_ n1_; (try clear hb); (try clear hb2); (try clear hk); (try clear hi); have hcz34_0 := bc_ BK769.out 0 (.int .i64 a0_0) rfl; have hcz34_1 := bc_ BK769.out 1 (.int .i64 a0_1) rfl; have hcz34_2 := bc_ BK769.out 2 (.int .i64 a0_2) rfl; have hcz34_3 := bc_ BK769.out 3 (.int .i64 a0_3) rfl; have hcz34_4 := bc_ BK769.out 4 (.int .i64 a0_4) rfl; have hcz34_5 := bc_ BK769.out 5 (.int .i64 a0_5) rfl; have hcz34_6 := bc_ BK769.out 6 (.int .i64 a0_6) rfl; have hcz34_7 := bc_ BK769.out 7 (.int .i64 a0_7) rfl; have hcz34_8 := bc_ BK769.out 8 (.int .i64 a0_8) rfl; have hcz34_9 := bc_ BK769.out 9 (.int .i64 a0_9) rfl; have hcz34_10 := bc_ BK769.out 10 (.slice A0_10 l0_10.length c0_10) rfl; have hfz34_0 := blk_frozen BK769.out 0; have hfz34_1 := blk_frozen BK769.out 1; have hfz34_2 := blk_frozen BK769.out 2; have hfz34_3 := blk_frozen BK769.out 3; have hfz34_4 := blk_frozen BK769.out 4; have hfz34_5 := blk_frozen BK769.out 5; have hfz34_6 := blk_frozen BK769.out 6; have hfz34_7 := blk_frozen BK769.out 7; have hfz34_8 := blk_frozen BK769.out 8; have hfz34_9 := blk_frozen BK769.out 9; have hfz34_10 := blk_frozen BK769.out 10) | (go_at_call 51; (with_reducible refine (spec_l1In.calls a0_2 0 8 true _ A6.out).mono ?_); rintro e w' ⟨rfl, ⟨nd, rfl⟩⟩) | (go_at_call 51; (with_reducible refine (spec_l1In.calls a0_3 1 8 true _ A8.out).mono ?_); rintro e w' ⟨rfl, ⟨nd, rfl⟩⟩) | (go_at_call 50; (with_reducible refine (spec_l2Time.calls a0_4 true _ A10.out).mono ?_); rintro e w' ⟨rfl, ⟨nd, rfl⟩⟩) | (go_at_call 50; (with_reducible refine (spec_l2Time.calls a0_5 false _ A12.out).mono ?_); rintro e w' ⟨rfl, ⟨nd, rfl⟩⟩))
              go_ret
              exact ⟨er_, hb1_ HB.out GE769.out⟩
          · replace c11 := Bool.eq_false_iff.mpr c11
            subst c11
            have H1 : (some false) = some r := by rw [if_neg (show ¬ (false = true) by decide)] at H; exact H
            clear H
            have H := H1
            clear H1
            obtain rfl := Option.some.inj H
            go_enter Try.func34, Try.ntmps34
            go_wp2_with (first | ((with_reducible refine gate_dst (N := 1) rfl ?_); refine box_event ?hg (N := 1) ?hd (cs := #[.int .i64 a0_0, .int .i64 a0_1, .int .i64 a0_2, .int .i64 a0_3, .int .i64 a0_4, .int .i64 a0_5, .int .i64 a0_6, .int .i64 a0_7, .int .i64 a0_8, .int .i64 a0_9, .slice A0_10 l0_10.length c0_10]) (t := 72) ?hr ?_; (case hd => rfl); (case hg => rfl); (case hr => first | (go_simp; done) | (go_simp; rfl)); intro gb769 hg w35 hbox hb; have n0_ := Aside0.mk (below_step (hb_ HB.out) hb); have n1_ := Aside0.mk (hbox); have n2_ := Aside0.mk ((by rw [hg]; exact (below_size (hb_ HB.out)) : w.heap.size ≤ gb769)); have n3_ := Aside0.mk ((by rw [hg]; exact (below_size (hb_ HB.out)) : w.heap.size ≤ gb769)); clear HB; have HB := n0_; have BK769 := n1_; have GW769 := n2_; have GE769 := n3_; clear n0_ n1_ n2_ n3_; clear hb hbox hg; have hcz36_0 := bc_ BK769.out 0 (.int .i64 a0_0) rfl; have hcz36_1 := bc_ BK769.out 1 (.int .i64 a0_1) rfl; have hcz36_2 := bc_ BK769.out 2 (.int .i64 a0_2) rfl; have hcz36_3 := bc_ BK769.out 3 (.int .i64 a0_3) rfl; have hcz36_4 := bc_ BK769.out 4 (.int .i64 a0_4) rfl; have hcz36_5 := bc_ BK769.out 5 (.int .i64 a0_5) rfl; have hcz36_6 := bc_ BK769.out 6 (.int .i64 a0_6) rfl; have hcz36_7 := bc_ BK769.out 7 (.int .i64 a0_7) rfl; have hcz36_8 := bc_ BK769.out 8 (.int .i64 a0_8) rfl; have hcz36_9 := bc_ BK769.out 9 (.int .i64 a0_9) rfl; have hcz36_10 := bc_ BK769.out 10 (.slice A0_10 l0_10.length c0_10) rfl; have hfz36_0 := blk_frozen BK769.out 0; have hfz36_1 := blk_frozen BK769.out 1; have hfz36_2 := blk_frozen BK769.out 2; have hfz36_3 := blk_frozen BK769.out 3; have hfz36_4 := blk_frozen BK769.out 4; have hfz36_5 := blk_frozen BK769.out 5; have hfz36_6 := blk_frozen BK769.out 6; have hfz36_7 := blk_frozen BK769.out 7; have hfz36_8 := blk_frozen BK769.out 8; have hfz36_9 := blk_frozen BK769.out 9; have hfz36_10 := blk_frozen BK769.out 10) | ((with_reducible refine gate_callee (f := 69) rfl ?_); refine goesL_ (some 5) rfl rfl Try.func69 (by kernel_rfl) rfl #[.agg #[.int .i64 a0_0, .int .i64 a0_1]] rfl arr_ ?_; (with_reducible refine (spec_DriftOk.calls a0_0 a0_1 true _ A2.out).mono ?_); rintro e w37 ⟨rfl, hb⟩; refine ⟨_, rfl, ?_⟩; have n0_ := Aside0.mk (bb_ BK769.out hb); have n1_ := Aside0.mk (below_step (hb1_ HB.out GE769.out) hb); clear BK769; clear HB; have BK769 := n0_; have HB := n1_; clear n0_ n1_; (try clear hb); (try clear hb2); (try clear hk); (try clear hi); have hcz38_0 := bc_ BK769.out 0 (.int .i64 a0_0) rfl; have hcz38_1 := bc_ BK769.out 1 (.int .i64 a0_1) rfl; have hcz38_2 := bc_ BK769.out 2 (.int .i64 a0_2) rfl; have hcz38_3 := bc_ BK769.out 3 (.int .i64 a0_3) rfl; have hcz38_4 := bc_ BK769.out 4 (.int .i64 a0_4) rfl; have hcz38_5 := bc_ BK769.out 5 (.int .i64 a0_5) rfl; have hcz38_6 := bc_ BK769.out 6 (.int .i64 a0_6) rfl; have hcz38_7 := bc_ BK769.out 7 (.int .i64 a0_7) rfl; have hcz38_8 := bc_ BK769.out 8 (.int .i64 a0_8) rfl; have hcz38_9 := bc_ BK769.out 9 (.int .i64 a0_9) rfl; have hcz38_10 := bc_ BK769.out 10 (.slice A0_10 l0_10.length c0_10) rfl; have hfz38_0 := blk_frozen BK769.out 0; have hfz38_1 := blk_frozen BK769.out 1; have hfz38_2 := blk_frozen BK769.out 2; have hfz38_3 := blk_frozen BK769.out 3; have hfz38_4 := blk_frozen BK769.out 4; have hfz38_5 := blk_frozen BK769.out 5; have hfz38_6 := blk_frozen BK769.out 6; have hfz38_7 := blk_frozen BK769.out 7; have hfz38_8 := blk_frozen BK769.out 8; have hfz38_9 := blk_frozen BK769.out 9; have hfz38_10 := blk_frozen BK769.out 10) | (go_at_call 20; (with_reducible refine (spec_PlanOk.calls k a0_8 a0_9 _ _ l0_10 true _ ?side1 ?side2 A4.out).mono ?_); (case side1 => exact kc_ (Kd.C_below HR0_10.out HB.out)); (case side2 => exact HC0_10.out); rintro e w39 ⟨rfl, hb⟩; have n0_ := Aside0.mk (bb_ BK769.out hb); have n1_ := Aside0.mk (below_step (hb1_ HB.out GE769.out) hb); clear BK769; clear HB; have BK769 := n0_; have HB := n1_; clear n0_ n1_; (try clear hb); (try clear hb2); (try clear hk); (try clear hi); have hcz40_0 := bc_ BK769.out 0 (.int .i64 a0_0) rfl; have hcz40_1 := bc_ BK769.out 1 (.int .i64 a0_1) rfl; have hcz40_2 := bc_ BK769.out 2 (.int .i64 a0_2) rfl; have hcz40_3 := bc_ BK769.out 3 (.int .i64 a0_3) rfl; have hcz40_4 := bc_ BK769.out 4 (.int .i64 a0_4) rfl; have hcz40_5 := bc_ BK769.out 5 (.int .i64 a0_5) rfl; have hcz40_6 := bc_ BK769.out 6 (.int .i64 a0_6) rfl; have hcz40_7 := bc_ BK769.out 7 (.int .i64 a0_7) rfl; have hcz40_8 := bc_ BK769.out 8 (.int .i64 a0_8) rfl; have hcz40_9 := bc_ BK769.out 9 (.int .i64 a0_9) rfl; have hcz40_10 := bc_ BK769.out 10 (.slice A0_10 l0_10.length c0_10) rfl; have hfz40_0 := blk_frozen BK769.out 0; have hfz40_1 := blk_frozen BK769.out 1; have hfz40_2 := blk_frozen BK769.out 2; have hfz40_3 := blk_frozen BK769.out 3; have hfz40_4 := blk_frozen BK769.out 4; have hfz40_5 := blk_frozen BK769.out 5; have hfz40_6 := blk_frozen BK769.out 6; have hfz40_7 := blk_frozen BK769.out 7; have hfz40_8 := blk_frozen BK769.out 8; have hfz40_9 := blk_frozen BK769.out 9; have hfz40_10 := blk_frozen BK769.out 10) | (go_at_call 51; (with_reducible refine (spec_l1In.calls a0_2 0 8 true _ A6.out).mono ?_); rintro e w' ⟨rfl, ⟨nd, rfl⟩⟩) | (go_at_call 51; (with_reducible refine (spec_l1In.calls a0_3 1 8 true _ A8.out).mono ?_); rintro e w' ⟨rfl, ⟨nd, rfl⟩⟩) | (go_at_call 50; (with_reducible refine (spec_l2Time.calls a0_4 false _ A10.out).mono ?_); rintro e w' ⟨rfl, ⟨nd, rfl⟩⟩))
            go_ret
            exact ⟨er_, hb1_ HB.out GE769.out⟩
        · replace c9 := Bool.eq_false_iff.mpr c9
          subst c9
          have H1 : (some false) = some r := by rw [if_neg (show ¬ (false = true) by decide)] at H; exact H
          clear H
          have H := H1
          clear H1
          obtain rfl := Option.some.inj H
          go_enter Try.func34, Try.ntmps34
          go_wp2_with (first | ((with_reducible refine gate_dst (N := 1) rfl ?_); refine box_event ?hg (N := 1) ?hd (cs := #[.int .i64 a0_0, .int .i64 a0_1, .int .i64 a0_2, .int .i64 a0_3, .int .i64 a0_4, .int .i64 a0_5, .int .i64 a0_6, .int .i64 a0_7, .int .i64 a0_8, .int .i64 a0_9, .slice A0_10 l0_10.length c0_10]) (t := 72) ?hr ?_; (case hd => rfl); (case hg => rfl); (case hr => first | (go_simp; done) | (go_simp; rfl)); intro gb769 hg w41 hbox hb; have n0_ := Aside0.mk (below_step (hb_ HB.out) hb); have n1_ := Aside0.mk (hbox); have n2_ := Aside0.mk ((by rw [hg]; exact (below_size (hb_ HB.out)) : w.heap.size ≤ gb769)); have n3_ := Aside0.mk ((by rw [hg]; exact (below_size (hb_ HB.out)) : w.heap.size ≤ gb769)); clear HB; have HB := n0_; have BK769 := n1_; have GW769 := n2_; have GE769 := n3_; clear n0_ n1_ n2_ n3_; clear hb hbox hg; have hcz42_0 := bc_ BK769.out 0 (.int .i64 a0_0) rfl; have hcz42_1 := bc_ BK769.out 1 (.int .i64 a0_1) rfl; have hcz42_2 := bc_ BK769.out 2 (.int .i64 a0_2) rfl; have hcz42_3 := bc_ BK769.out 3 (.int .i64 a0_3) rfl; have hcz42_4 := bc_ BK769.out 4 (.int .i64 a0_4) rfl; have hcz42_5 := bc_ BK769.out 5 (.int .i64 a0_5) rfl; have hcz42_6 := bc_ BK769.out 6 (.int .i64 a0_6) rfl; have hcz42_7 := bc_ BK769.out 7 (.int .i64 a0_7) rfl; have hcz42_8 := bc_ BK769.out 8 (.int .i64 a0_8) rfl; have hcz42_9 := bc_ BK769.out 9 (.int .i64 a0_9) rfl; have hcz42_10 := bc_ BK769.out 10 (.slice A0_10 l0_10.length c0_10) rfl; have hfz42_0 := blk_frozen BK769.out 0; have hfz42_1 := blk_frozen BK769.out 1; have hfz42_2 := blk_frozen BK769.out 2; have hfz42_3 := blk_frozen BK769.out 3; have hfz42_4 := blk_frozen BK769.out 4; have hfz42_5 := blk_frozen BK769.out 5; have hfz42_6 := blk_frozen BK769.out 6; have hfz42_7 := blk_frozen BK769.out 7; have hfz42_8 := blk_frozen BK769.out 8; have hfz42_9 := blk_frozen BK769.out 9; have hfz42_10 := blk_frozen BK769.out 10) | ((with_reducible refine gate_callee (f := 69) rfl ?_); refine goesL_ (some 5) rfl rfl Try.func69 (by kernel_rfl) rfl #[.agg #[.int .i64 a0_0, .int .i64 a0_1]] rfl arr_ ?_; (with_reducible refine (spec_DriftOk.calls a0_0 a0_1 true _ A2.out).mono ?_); rintro e w43 ⟨rfl, hb⟩; refine ⟨_, rfl, ?_⟩; have n0_ := Aside0.mk (bb_ BK769.out hb); have n1_ := Aside0.mk (below_step (hb1_ HB.out GE769.out) hb); clear BK769; clear HB; have BK769 := n0_; have HB := n1_; clear n0_ n1_; (try clear hb); (try clear hb2); (try clear hk); (try clear hi); have hcz44_0 := bc_ BK769.out 0 (.int .i64 a0_0) rfl; have hcz44_1 := bc_ BK769.out 1 (.int .i64 a0_1) rfl; have hcz44_2 := bc_ BK769.out 2 (.int .i64 a0_2) rfl; have hcz44_3 := bc_ BK769.out 3 (.int .i64 a0_3) rfl; have hcz44_4 := bc_ BK769.out 4 (.int .i64 a0_4) rfl; have hcz44_5 := bc_ BK769.out 5 (.int .i64 a0_5) rfl; have hcz44_6 := bc_ BK769.out 6 (.int .i64 a0_6) rfl; have hcz44_7 := bc_ BK769.out 7 (.int .i64 a0_7) rfl; have hcz44_8 := bc_ BK769.out 8 (.int .i64 a0_8) rfl; have hcz44_9 := bc_ BK769.out 9 (.int .i64 a0_9) rfl; have hcz44_10 := bc_ BK769.out 10 (.slice A0_10 l0_10.length c0_10) rfl; have hfz44_0 := blk_frozen BK769.out 0; have hfz44_1 := blk_frozen BK769.out 1; have hfz44_2 := blk_frozen BK769.out 2; have hfz44_3 := blk_frozen BK769.out 3; have hfz44_4 := blk_frozen BK769.out 4; have hfz44_5 := blk_frozen BK769.out 5; have hfz44_6 := blk_frozen BK769.out 6; have hfz44_7 := blk_frozen BK769.out 7; have hfz44_8 := blk_frozen BK769.out 8; have hfz44_9 := blk_frozen BK769.out 9; have hfz44_10 := blk_frozen BK769.out 10) | (go_at_call 20; (with_reducible refine (spec_PlanOk.calls k a0_8 a0_9 _ _ l0_10 true _ ?side1 ?side2 A4.out).mono ?_); (case side1 => exact kc_ (Kd.C_below HR0_10.out HB.out)); (case side2 => exact HC0_10.out); rintro e w45 ⟨rfl, hb⟩; have n0_ := Aside0.mk (bb_ BK769.out hb); have n1_ := Aside0.mk (below_step (hb1_ HB.out GE769.out) hb); clear BK769; clear HB; have BK769 := n0_; have HB := n1_; clear n0_ n1_; (try clear hb); (try clear hb2); (try clear hk); (try clear hi); have hcz46_0 := bc_ BK769.out 0 (.int .i64 a0_0) rfl; have hcz46_1 := bc_ BK769.out 1 (.int .i64 a0_1) rfl; have hcz46_2 := bc_ BK769.out 2 (.int .i64 a0_2) rfl; have hcz46_3 := bc_ BK769.out 3 (.int .i64 a0_3) rfl; have hcz46_4 := bc_ BK769.out 4 (.int .i64 a0_4) rfl; have hcz46_5 := bc_ BK769.out 5 (.int .i64 a0_5) rfl; have hcz46_6 := bc_ BK769.out 6 (.int .i64 a0_6) rfl; have hcz46_7 := bc_ BK769.out 7 (.int .i64 a0_7) rfl; have hcz46_8 := bc_ BK769.out 8 (.int .i64 a0_8) rfl; have hcz46_9 := bc_ BK769.out 9 (.int .i64 a0_9) rfl; have hcz46_10 := bc_ BK769.out 10 (.slice A0_10 l0_10.length c0_10) rfl; have hfz46_0 := blk_frozen BK769.out 0; have hfz46_1 := blk_frozen BK769.out 1; have hfz46_2 := blk_frozen BK769.out 2; have hfz46_3 := blk_frozen BK769.out 3; have hfz46_4 := blk_frozen BK769.out 4; have hfz46_5 := blk_frozen BK769.out 5; have hfz46_6 := blk_frozen BK769.out 6; have hfz46_7 := blk_frozen BK769.out 7; have hfz46_8 := blk_frozen BK769.out 8; have hfz46_9 := blk_frozen BK769.out 9; have hfz46_10 := blk_frozen BK769.out 10) | (go_at_call 51; (with_reducible refine (spec_l1In.calls a0_2 0 8 true _ A6.out).mono ?_); rintro e w' ⟨rfl, ⟨nd, rfl⟩⟩) | (go_at_call 51; (with_reducible refine (spec_l1In.calls a0_3 1 8 false _ A8.out).mono ?_); rintro e w' ⟨rfl, ⟨nd, rfl⟩⟩))
          go_ret
          exact ⟨er_, hb1_ HB.out GE769.out⟩
      · replace c7 := Bool.eq_false_iff.mpr c7
        subst c7
        have H1 : (some false) = some r := by rw [if_neg (show ¬ (false = true) by decide)] at H; exact H
        clear H
        have H := H1
        clear H1
        obtain rfl := Option.some.inj H
        go_enter Try.func34, Try.ntmps34
        go_wp2_with (first | ((with_reducible refine gate_dst (N := 1) rfl ?_); refine box_event ?hg (N := 1) ?hd (cs := #[.int .i64 a0_0, .int .i64 a0_1, .int .i64 a0_2, .int .i64 a0_3, .int .i64 a0_4, .int .i64 a0_5, .int .i64 a0_6, .int .i64 a0_7, .int .i64 a0_8, .int .i64 a0_9, .slice A0_10 l0_10.length c0_10]) (t := 72) ?hr ?_; (case hd => rfl); (case hg => rfl); (case hr => first | (go_simp; done) | (go_simp; rfl)); intro gb769 hg w47 hbox hb; have n0_ := Aside0.mk (below_step (hb_ HB.out) hb); have n1_ := Aside0.mk (hbox); have n2_ := Aside0.mk ((by rw [hg]; exact (below_size (hb_ HB.out)) : w.heap.size ≤ gb769)); have n3_ := Aside0.mk ((by rw [hg]; exact (below_size (hb_ HB.out)) : w.heap.size ≤ gb769)); clear HB; have HB := n0_; have BK769 := n1_; have GW769 := n2_; have GE769 := n3_; clear n0_ n1_ n2_ n3_; clear hb hbox hg; have hcz48_0 := bc_ BK769.out 0 (.int .i64 a0_0) rfl; have hcz48_1 := bc_ BK769.out 1 (.int .i64 a0_1) rfl; have hcz48_2 := bc_ BK769.out 2 (.int .i64 a0_2) rfl; have hcz48_3 := bc_ BK769.out 3 (.int .i64 a0_3) rfl; have hcz48_4 := bc_ BK769.out 4 (.int .i64 a0_4) rfl; have hcz48_5 := bc_ BK769.out 5 (.int .i64 a0_5) rfl; have hcz48_6 := bc_ BK769.out 6 (.int .i64 a0_6) rfl; have hcz48_7 := bc_ BK769.out 7 (.int .i64 a0_7) rfl; have hcz48_8 := bc_ BK769.out 8 (.int .i64 a0_8) rfl; have hcz48_9 := bc_ BK769.out 9 (.int .i64 a0_9) rfl; have hcz48_10 := bc_ BK769.out 10 (.slice A0_10 l0_10.length c0_10) rfl; have hfz48_0 := blk_frozen BK769.out 0; have hfz48_1 := blk_frozen BK769.out 1; have hfz48_2 := blk_frozen BK769.out 2; have hfz48_3 := blk_frozen BK769.out 3; have hfz48_4 := blk_frozen BK769.out 4; have hfz48_5 := blk_frozen BK769.out 5; have hfz48_6 := blk_frozen BK769.out 6; have hfz48_7 := blk_frozen BK769.out 7; have hfz48_8 := blk_frozen BK769.out 8; have hfz48_9 := blk_frozen BK769.out 9; have hfz48_10 := blk_frozen BK769.out 10) | ((with_reducible refine gate_callee (f := 69) rfl ?_); refine goesL_ (some 5) rfl rfl Try.func69 (by kernel_rfl) rfl #[.agg #[.int .i64 a0_0, .int .i64 a0_1]] rfl arr_ ?_; (with_reducible refine (spec_DriftOk.calls a0_0 a0_1 true _ A2.out).mono ?_); rintro e w49 ⟨rfl, hb⟩; refine ⟨_, rfl, ?_⟩; have n0_ := Aside0.mk (bb_ BK769.out hb); have n1_ := Aside0.mk (below_step (hb1_ HB.out GE769.out) hb); clear BK769; clear HB; have BK769 := n0_; have HB := n1_; clear n0_ n1_; (try clear hb); (try clear hb2); (try clear hk); (try clear hi); have hcz50_0 := bc_ BK769.out 0 (.int .i64 a0_0) rfl; have hcz50_1 := bc_ BK769.out 1 (.int .i64 a0_1) rfl; have hcz50_2 := bc_ BK769.out 2 (.int .i64 a0_2) rfl; have hcz50_3 := bc_ BK769.out 3 (.int .i64 a0_3) rfl; have hcz50_4 := bc_ BK769.out 4 (.int .i64 a0_4) rfl; have hcz50_5 := bc_ BK769.out 5 (.int .i64 a0_5) rfl; have hcz50_6 := bc_ BK769.out 6 (.int .i64 a0_6) rfl; have hcz50_7 := bc_ BK769.out 7 (.int .i64 a0_7) rfl; have hcz50_8 := bc_ BK769.out 8 (.int .i64 a0_8) rfl; have hcz50_9 := bc_ BK769.out 9 (.int .i64 a0_9) rfl; have hcz50_10 := bc_ BK769.out 10 (.slice A0_10 l0_10.length c0_10) rfl; have hfz50_0 := blk_frozen BK769.out 0; have hfz50_1 := blk_frozen BK769.out 1; have hfz50_2 := blk_frozen BK769.out 2; have hfz50_3 := blk_frozen BK769.out 3; have hfz50_4 := blk_frozen BK769.out 4; have hfz50_5 := blk_frozen BK769.out 5; have hfz50_6 := blk_frozen BK769.out 6; have hfz50_7 := blk_frozen BK769.out 7; have hfz50_8 := blk_frozen BK769.out 8; have hfz50_9 := blk_frozen BK769.out 9; have hfz50_10 := blk_frozen BK769.out 10) | (go_at_call 20; (with_reducible refine (spec_PlanOk.calls k a0_8 a0_9 _ _ l0_10 true _ ?side1 ?side2 A4.out).mono ?_); (case side1 => exact kc_ (Kd.C_below HR0_10.out HB.out)); (case side2 => exact HC0_10.out); rintro e w51 ⟨rfl, hb⟩; have n0_ := Aside0.mk (bb_ BK769.out hb); have n1_ := Aside0.mk (below_step (hb1_ HB.out GE769.out) hb); clear BK769; clear HB; have BK769 := n0_; have HB := n1_; clear n0_ n1_; (try clear hb); (try clear hb2); (try clear hk); (try clear hi); have hcz52_0 := bc_ BK769.out 0 (.int .i64 a0_0) rfl; have hcz52_1 := bc_ BK769.out 1 (.int .i64 a0_1) rfl; have hcz52_2 := bc_ BK769.out 2 (.int .i64 a0_2) rfl; have hcz52_3 := bc_ BK769.out 3 (.int .i64 a0_3) rfl; have hcz52_4 := bc_ BK769.out 4 (.int .i64 a0_4) rfl; have hcz52_5 := bc_ BK769.out 5 (.int .i64 a0_5) rfl; have hcz52_6 := bc_ BK769.out 6 (.int .i64 a0_6) rfl; have hcz52_7 := bc_ BK769.out 7 (.int .i64 a0_7) rfl; have hcz52_8 := bc_ BK769.out 8 (.int .i64 a0_8) rfl; have hcz52_9 := bc_ BK769.out 9 (.int .i64 a0_9) rfl; have hcz52_10 := bc_ BK769.out 10 (.slice A0_10 l0_10.length c0_10) rfl; have hfz52_0 := blk_frozen BK769.out 0; have hfz52_1 := blk_frozen BK769.out 1; have hfz52_2 := blk_frozen BK769.out 2; have hfz52_3 := blk_frozen BK769.out 3; have hfz52_4 := blk_frozen BK769.out 4; have hfz52_5 := blk_frozen BK769.out 5; have hfz52_6 := blk_frozen BK769.out 6; have hfz52_7 := blk_frozen BK769.out 7; have hfz52_8 := blk_frozen BK769.out 8; have hfz52_9 := blk_frozen BK769.out 9; have hfz52_10 := blk_frozen BK769.out 10) | (go_at_call 51; (with_reducible refine (spec_l1In.calls a0_2 0 8 false _ A6.out).mono ?_); rintro e w' ⟨rfl, ⟨nd, rfl⟩⟩))
        go_ret
        exact ⟨er_, hb1_ HB.out GE769.out⟩
    · replace c5 := Bool.eq_false_iff.mpr c5
      subst c5
      have H1 : (some false) = some r := by rw [if_neg (show ¬ (false = true) by decide)] at H; exact H
      clear H
      have H := H1
      clear H1
      obtain rfl := Option.some.inj H
      go_enter Try.func34, Try.ntmps34
      go_wp2_with (first | ((with_reducible refine gate_dst (N := 1) rfl ?_); refine box_event ?hg (N := 1) ?hd (cs := #[.int .i64 a0_0, .int .i64 a0_1, .int .i64 a0_2, .int .i64 a0_3, .int .i64 a0_4, .int .i64 a0_5, .int .i64 a0_6, .int .i64 a0_7, .int .i64 a0_8, .int .i64 a0_9, .slice A0_10 l0_10.length c0_10]) (t := 72) ?hr ?_; (case hd => rfl); (case hg => rfl); (case hr => first | (go_simp; done) | (go_simp; rfl)); intro gb769 hg w53 hbox hb; have n0_ := Aside0.mk (below_step (hb_ HB.out) hb); have n1_ := Aside0.mk (hbox); have n2_ := Aside0.mk ((by rw [hg]; exact (below_size (hb_ HB.out)) : w.heap.size ≤ gb769)); have n3_ := Aside0.mk ((by rw [hg]; exact (below_size (hb_ HB.out)) : w.heap.size ≤ gb769)); clear HB; have HB := n0_; have BK769 := n1_; have GW769 := n2_; have GE769 := n3_; clear n0_ n1_ n2_ n3_; clear hb hbox hg; have hcz54_0 := bc_ BK769.out 0 (.int .i64 a0_0) rfl; have hcz54_1 := bc_ BK769.out 1 (.int .i64 a0_1) rfl; have hcz54_2 := bc_ BK769.out 2 (.int .i64 a0_2) rfl; have hcz54_3 := bc_ BK769.out 3 (.int .i64 a0_3) rfl; have hcz54_4 := bc_ BK769.out 4 (.int .i64 a0_4) rfl; have hcz54_5 := bc_ BK769.out 5 (.int .i64 a0_5) rfl; have hcz54_6 := bc_ BK769.out 6 (.int .i64 a0_6) rfl; have hcz54_7 := bc_ BK769.out 7 (.int .i64 a0_7) rfl; have hcz54_8 := bc_ BK769.out 8 (.int .i64 a0_8) rfl; have hcz54_9 := bc_ BK769.out 9 (.int .i64 a0_9) rfl; have hcz54_10 := bc_ BK769.out 10 (.slice A0_10 l0_10.length c0_10) rfl; have hfz54_0 := blk_frozen BK769.out 0; have hfz54_1 := blk_frozen BK769.out 1; have hfz54_2 := blk_frozen BK769.out 2; have hfz54_3 := blk_frozen BK769.out 3; have hfz54_4 := blk_frozen BK769.out 4; have hfz54_5 := blk_frozen BK769.out 5; have hfz54_6 := blk_frozen BK769.out 6; have hfz54_7 := blk_frozen BK769.out 7; have hfz54_8 := blk_frozen BK769.out 8; have hfz54_9 := blk_frozen BK769.out 9; have hfz54_10 := blk_frozen BK769.out 10) | ((with_reducible refine gate_callee (f := 69) rfl ?_); refine goesL_ (some 5) rfl rfl Try.func69 (by kernel_rfl) rfl #[.agg #[.int .i64 a0_0, .int .i64 a0_1]] rfl arr_ ?_; (with_reducible refine (spec_DriftOk.calls a0_0 a0_1 true _ A2.out).mono ?_); rintro e w55 ⟨rfl, hb⟩; refine ⟨_, rfl, ?_⟩; have n0_ := Aside0.mk (bb_ BK769.out hb); have n1_ := Aside0.mk (below_step (hb1_ HB.out GE769.out) hb); clear BK769; clear HB; have BK769 := n0_; have HB := n1_; clear n0_ n1_; (try clear hb); (try clear hb2); (try clear hk); (try clear hi); have hcz56_0 := bc_ BK769.out 0 (.int .i64 a0_0) rfl; have hcz56_1 := bc_ BK769.out 1 (.int .i64 a0_1) rfl; have hcz56_2 := bc_ BK769.out 2 (.int .i64 a0_2) rfl; have hcz56_3 := bc_ BK769.out 3 (.int .i64 a0_3) rfl; have hcz56_4 := bc_ BK769.out 4 (.int .i64 a0_4) rfl; have hcz56_5 := bc_ BK769.out 5 (.int .i64 a0_5) rfl; have hcz56_6 := bc_ BK769.out 6 (.int .i64 a0_6) rfl; have hcz56_7 := bc_ BK769.out 7 (.int .i64 a0_7) rfl; have hcz56_8 := bc_ BK769.out 8 (.int .i64 a0_8) rfl; have hcz56_9 := bc_ BK769.out 9 (.int .i64 a0_9) rfl; have hcz56_10 := bc_ BK769.out 10 (.slice A0_10 l0_10.length c0_10) rfl; have hfz56_0 := blk_frozen BK769.out 0; have hfz56_1 := blk_frozen BK769.out 1; have hfz56_2 := blk_frozen BK769.out 2; have hfz56_3 := blk_frozen BK769.out 3; have hfz56_4 := blk_frozen BK769.out 4; have hfz56_5 := blk_frozen BK769.out 5; have hfz56_6 := blk_frozen BK769.out 6; have hfz56_7 := blk_frozen BK769.out 7; have hfz56_8 := blk_frozen BK769.out 8; have hfz56_9 := blk_frozen BK769.out 9; have hfz56_10 := blk_frozen BK769.out 10) | (go_at_call 20; (with_reducible refine (spec_PlanOk.calls k a0_8 a0_9 _ _ l0_10 false _ ?side1 ?side2 A4.out).mono ?_); (case side1 => exact kc_ (Kd.C_below HR0_10.out HB.out)); (case side2 => exact HC0_10.out); rintro e w57 ⟨rfl, hb⟩; have n0_ := Aside0.mk (bb_ BK769.out hb); have n1_ := Aside0.mk (below_step (hb1_ HB.out GE769.out) hb); clear BK769; clear HB; have BK769 := n0_; have HB := n1_; clear n0_ n1_; (try clear hb); (try clear hb2); (try clear hk); (try clear hi)))
      go_ret
      exact ⟨er_, hb1_ HB.out GE769.out⟩
  · replace c3 := Bool.eq_false_iff.mpr c3
    subst c3
    have H1 : (some false) = some r := by rw [if_neg (show ¬ (false = true) by decide)] at H; exact H
    clear H
    have H := H1
    clear H1
    obtain rfl := Option.some.inj H
    go_enter Try.func34, Try.ntmps34
    go_wp2_with (first | ((with_reducible refine gate_dst (N := 1) rfl ?_); refine box_event ?hg (N := 1) ?hd (cs := #[.int .i64 a0_0, .int .i64 a0_1, .int .i64 a0_2, .int .i64 a0_3, .int .i64 a0_4, .int .i64 a0_5, .int .i64 a0_6, .int .i64 a0_7, .int .i64 a0_8, .int .i64 a0_9, .slice A0_10 l0_10.length c0_10]) (t := 72) ?hr ?_; (case hd => rfl); (case hg => rfl); (case hr => first | (go_simp; done) | (go_simp; rfl)); intro gb769 hg w58 hbox hb; have n0_ := Aside0.mk (below_step (hb_ HB.out) hb); have n1_ := Aside0.mk (hbox); have n2_ := Aside0.mk ((by rw [hg]; exact (below_size (hb_ HB.out)) : w.heap.size ≤ gb769)); have n3_ := Aside0.mk ((by rw [hg]; exact (below_size (hb_ HB.out)) : w.heap.size ≤ gb769)); clear HB; have HB := n0_; have BK769 := n1_; have GW769 := n2_; have GE769 := n3_; clear n0_ n1_ n2_ n3_; clear hb hbox hg; have hcz59_0 := bc_ BK769.out 0 (.int .i64 a0_0) rfl; have hcz59_1 := bc_ BK769.out 1 (.int .i64 a0_1) rfl; have hcz59_2 := bc_ BK769.out 2 (.int .i64 a0_2) rfl; have hcz59_3 := bc_ BK769.out 3 (.int .i64 a0_3) rfl; have hcz59_4 := bc_ BK769.out 4 (.int .i64 a0_4) rfl; have hcz59_5 := bc_ BK769.out 5 (.int .i64 a0_5) rfl; have hcz59_6 := bc_ BK769.out 6 (.int .i64 a0_6) rfl; have hcz59_7 := bc_ BK769.out 7 (.int .i64 a0_7) rfl; have hcz59_8 := bc_ BK769.out 8 (.int .i64 a0_8) rfl; have hcz59_9 := bc_ BK769.out 9 (.int .i64 a0_9) rfl; have hcz59_10 := bc_ BK769.out 10 (.slice A0_10 l0_10.length c0_10) rfl; have hfz59_0 := blk_frozen BK769.out 0; have hfz59_1 := blk_frozen BK769.out 1; have hfz59_2 := blk_frozen BK769.out 2; have hfz59_3 := blk_frozen BK769.out 3; have hfz59_4 := blk_frozen BK769.out 4; have hfz59_5 := blk_frozen BK769.out 5; have hfz59_6 := blk_frozen BK769.out 6; have hfz59_7 := blk_frozen BK769.out 7; have hfz59_8 := blk_frozen BK769.out 8; have hfz59_9 := blk_frozen BK769.out 9; have hfz59_10 := blk_frozen BK769.out 10) | ((with_reducible refine gate_callee (f := 69) rfl ?_); refine goesL_ (some 5) rfl rfl Try.func69 (by kernel_rfl) rfl #[.agg #[.int .i64 a0_0, .int .i64 a0_1]] rfl arr_ ?_; (with_reducible refine (spec_DriftOk.calls a0_0 a0_1 false _ A2.out).mono ?_); rintro e w60 ⟨rfl, hb⟩; refine ⟨_, rfl, ?_⟩; have n0_ := Aside0.mk (bb_ BK769.out hb); have n1_ := Aside0.mk (below_step (hb1_ HB.out GE769.out) hb); clear BK769; clear HB; have BK769 := n0_; have HB := n1_; clear n0_ n1_; (try clear hb); (try clear hb2); (try clear hk); (try clear hi)))
    go_ret
    exact ⟨er_, hb1_ HB.out GE769.out⟩
def laws_toSlot.f (a0_0 : Int) (a0_1 : Int) : Option (Int × Int) := some (a0_0, a0_1)
set_option maxHeartbeats 8000000 in
set_option maxRecDepth 100000 in
theorem laws_toSlot.calls (a0_0 : Int) (a0_1 : Int) (r1 : Int) (r2 : Int) (w : World) (h : laws_toSlot.f a0_0 a0_1 = some (r1, r2)) :
    Calls Try.prog 75 #[.agg #[.int .i64 a0_0, .int .i64 a0_1]] w fun e w' => e = .returned (.agg #[.int .i64 r1, .int .i64 r2]) ∧ Below w.heap.size w w' := by
  have hu109 := Try.underlying109
  have hu78 := Try.underlying78
  have HB := Aside0.mk (Below.refl w.heap.size w)
  have H : (some (a0_0, a0_1)) = some (r1, r2) := h
  clear h
  simp only [Option.some.injEq, Prod.mk.injEq] at H
  obtain ⟨rfl, rfl⟩ := H
  go_enter Try.func75, Try.ntmps75
  go_wp2_with (first | ((with_reducible refine gate_dst (N := 1) rfl ?_); refine box_event ?hg (N := 1) ?hd (cs := #[.int .i64 a0_0, .int .i64 a0_1]) (t := 109) ?hr ?_; (case hd => rfl); (case hg => rfl); (case hr => first | (go_simp; done) | (go_simp; rfl)); intro gb122 hg w2 hbox hb; have n0_ := Aside0.mk (below_step (hb_ HB.out) hb); have n1_ := Aside0.mk (hbox); have n2_ := Aside0.mk ((by rw [hg]; exact (below_size (hb_ HB.out)) : w.heap.size ≤ gb122)); have n3_ := Aside0.mk ((by rw [hg]; exact (below_size (hb_ HB.out)) : w.heap.size ≤ gb122)); clear HB; have HB := n0_; have BK122 := n1_; have GW122 := n2_; have GE122 := n3_; clear n0_ n1_ n2_ n3_; clear hb hbox hg) | ((with_reducible refine gate_dst (N := 2) rfl ?_); refine box_event ?hg (N := 2) ?hd (cs := #[.int .i64 0, .int .i64 0]) (t := 78) ?hr ?_; (case hd => rfl); (case hg => rfl); (case hr => first | (go_simp; done) | (go_simp; rfl)); intro gb123 hg w3 hbox hb; have n0_ := Aside0.mk (bb_ BK122.out hb); have n1_ := Aside0.mk (below_step (hb1_ HB.out GE122.out) hb); have n2_ := Aside0.mk (hbox); have n3_ := Aside0.mk ((by rw [hg]; exact (below_size (hb1_ HB.out GE122.out)) : w.heap.size ≤ gb123)); have n4_ := Aside0.mk ((by rw [hg]; exact (below_size (hb1_ HB.out GE122.out)) : w.heap.size ≤ gb123)); have n5_ := Aside0.mk ((bl_ hg BK122.out : gb122 ≠ gb123)); have n6_ := Aside0.mk ((bg_ hg BK122.out : gb123 ≠ gb122)); clear BK122; clear HB; have BK122 := n0_; have HB := n1_; have BK123 := n2_; have GW123 := n3_; have GE123 := n4_; have NB122_123 := n5_; have NB123_122 := n6_; clear n0_ n1_ n2_ n3_ n4_ n5_ n6_; clear hb hbox hg) | ((with_reducible refine gate_dst (N := 3) rfl ?_); refine box_event ?hg (N := 3) ?hd (cs := #[.int .i64 0, .int .i64 0]) (t := 78) ?hr ?_; (case hd => rfl); (case hg => rfl); (case hr => first | (go_simp; done) | (go_simp; rfl)); intro gb124 hg w4 hbox hb; have n0_ := Aside0.mk (bb_ BK122.out hb); have n1_ := Aside0.mk (bb_ BK123.out hb); have n2_ := Aside0.mk (below_step (hb2_ HB.out GE122.out GE123.out) hb); have n3_ := Aside0.mk (hbox); have n4_ := Aside0.mk ((by rw [hg]; exact (below_size (hb2_ HB.out GE122.out GE123.out)) : w.heap.size ≤ gb124)); have n5_ := Aside0.mk ((by rw [hg]; exact (below_size (hb2_ HB.out GE122.out GE123.out)) : w.heap.size ≤ gb124)); have n6_ := Aside0.mk ((bl_ hg BK122.out : gb122 ≠ gb124)); have n7_ := Aside0.mk ((bg_ hg BK122.out : gb124 ≠ gb122)); have n8_ := Aside0.mk ((bl_ hg BK123.out : gb123 ≠ gb124)); have n9_ := Aside0.mk ((bg_ hg BK123.out : gb124 ≠ gb123)); clear BK122; clear BK123; clear HB; have BK122 := n0_; have BK123 := n1_; have HB := n2_; have BK124 := n3_; have GW124 := n4_; have GE124 := n5_; have NB122_124 := n6_; have NB124_122 := n7_; have NB123_124 := n8_; have NB124_123 := n9_; clear n0_ n1_ n2_ n3_ n4_ n5_ n6_ n7_ n8_ n9_; clear hb hbox hg; have hnb5 := NB122_123.out; have hnc5 := NB123_122.out; have hnb6 := NB122_124.out; have hnc6 := NB124_122.out; have hcz7_0 := bc_ BK122.out 0 (.int .i64 a0_0) rfl; have hcz7_1 := bc_ BK122.out 1 (.int .i64 a0_1) rfl; have hfz7_0 := blk_frozen BK122.out 0; have hfz7_1 := blk_frozen BK122.out 1; have hnb8 := NB124_123.out; have hnc8 := NB123_124.out; have hcz9_0 := bc_ BK124.out 0 (.int .i64 0) rfl; have hcz9_1 := bc_ BK124.out 1 (.int .i64 0) rfl; have hfz9_0 := blk_frozen BK124.out 0; have hfz9_1 := blk_frozen BK124.out 1; have hcz10_0 := bc_ BK123.out 0 (.int .i64 0) rfl; have hcz10_1 := bc_ BK123.out 1 (.int .i64 0) rfl; have hfz10_0 := blk_frozen BK123.out 0; have hfz10_1 := blk_frozen BK123.out 1))
  refine bodyPost_ret (results_cell_row rfl _ _ gb123 78 #[.int .i64 a0_0, .int .i64 a0_1] (0, 0) _ rfl (by (with_reducible repeat (first | refine blk_drewN ?_ _ | refine blk_drew ?_ | refine blk_alloc ?_ _)); refine blk_put (cs := #[.int .i64 a0_0, .int .i64 0]) ?_ 1 _ rfl; (with_reducible repeat (first | refine blk_drewN ?_ _ | refine blk_drew ?_ | refine blk_alloc ?_ _)); refine blk_put (cs := #[.int .i64 0, .int .i64 0]) ?_ 0 _ rfl; (with_reducible repeat (first | refine blk_drewN ?_ _ | refine blk_drew ?_ | refine blk_alloc ?_ _)); refine blk_far ?_ NB123_124.out _; (with_reducible repeat (first | refine blk_drewN ?_ _ | refine blk_drew ?_ | refine blk_alloc ?_ _)); refine blk_far ?_ NB123_124.out _; (with_reducible repeat (first | refine blk_drewN ?_ _ | refine blk_drew ?_ | refine blk_alloc ?_ _)); exact BK123.out) Try.underlying78 rfl (by kernel_rfl)) rfl ?_
  exact ⟨er_, hb3_ HB.out GE122.out GE123.out GE124.out⟩
def laws_toSlotS.l0 : Nat → List (S109) → List (S78) → Int → Option ((List (S78)))
  | 0, _, _, _ => none
  | k + 1, x0, x3, x4 => if x4 < (x0.length : Int) then (if 0 ≤ x4 then ((laws_toSlot.f ((rd_T109 x0 x4).f0) ((rd_T109 x0 x4).f1)).bind fun bt129 => (if x4 < (x3.length : Int) then (laws_toSlotS.l0 k x0 (x3.set (x4 : Int).toNat (⟨bt129.1, bt129.2⟩ : S78)) (wrap64 (x4 + 1))) else (none))) else (none)) else (some x3)
def laws_toSlotS.f (k : Nat) (l0 : List (S109)) : Option ((List (S78))) := if 0 ≤ (l0.length : Int) then (if ((l0.length : Int) : Int).toNat ≤ 17592186044416 then (laws_toSlotS.l0 k l0 (List.replicate ((l0.length : Int) : Int).toNat z78) 0) else (none)) else (none)
theorem laws_toSlotS.mono_l : ∀ k, (∀ y0 y1 y2, LeO (laws_toSlotS.l0 k y0 y1 y2) (laws_toSlotS.l0 (k + 1) y0 y1 y2))
  | 0 => fun _ _ _ r h => by simp [laws_toSlotS.l0] at h
  | k + 1 => by
    have ih0 := laws_toSlotS.mono_l k
    · intro y0 y1 y2
      unfold laws_toSlotS.l0
      repeat' first
      | (with_reducible exact ih0 _ _ _)
      | (with_reducible exact LeO.refl _)
      | (with_reducible exact LeO.none _)
      | (with_reducible refine LeO.ite ?_ ?_)
      | (with_reducible refine LeO.bind ?_ (fun _ => ?_))
      | exact ih0 _ _ _
      | exact LeO.none _
      | refine LeO.ite ?_ ?_
      | refine LeO.bind ?_ (fun _ => ?_)
theorem laws_toSlotS.mono : ∀ a0 k, LeO (laws_toSlotS.f k a0) (laws_toSlotS.f (k + 1) a0) := by
  intro a0 k
  have ih0 := laws_toSlotS.mono_l k
  unfold laws_toSlotS.f
  repeat' first
      | (with_reducible exact ih0 _ _ _)
      | (with_reducible exact LeO.refl _)
      | (with_reducible exact LeO.none _)
      | (with_reducible refine LeO.ite ?_ ?_)
      | (with_reducible refine LeO.bind ?_ (fun _ => ?_))
      | exact ih0 _ _ _
      | exact LeO.none _
      | refine LeO.ite ?_ ?_
      | refine LeO.bind ?_ (fun _ => ?_)
set_option maxHeartbeats 8000000 in
set_option maxRecDepth 100000 in
theorem laws_toSlotS.calls (k : Nat) (A0 : Option Addr) (c0 : Nat) (l0 : List (S109)) (r : List (S78)) (w : World) (hr0 : Kd.C k109 w A0 l0.length l0) (hc0 : l0.length ≤ c0) (h : laws_toSlotS.f k l0 = some r) :
    Calls Try.prog 39 #[.slice A0 l0.length c0] w fun e w' => ∃ v0_ : Value, e = .returned (v0_) ∧ Kd.R k78 78 w' w.heap.size (fun _ => True) v0_ r ∧ Below w.heap.size w w' := by
  have hu109 := Try.underlying109
  have hu78 := Try.underlying78
  have HR0 := Aside0.mk hr0
  have HC0 := Aside0.mk hc0
  clear hr0 hc0
  have HB := Aside0.mk (Below.refl w.heap.size w)
  have H : (if 0 ≤ (l0.length : Int) then (if ((l0.length : Int) : Int).toNat ≤ 17592186044416 then (laws_toSlotS.l0 k l0 (List.replicate ((l0.length : Int) : Int).toNat z78) 0) else (none)) else (none)) = some r := h
  clear h
  by_cases c2 : 0 ≤ (l0.length : Int)
  · rw [if_pos c2] at H
    have c2b0 := eq_true c2
    have c2b1 : decide (0 ≤ (l0.length : Int)) = true := decide_eq_true c2
    clear c2
    by_cases c3 : ((l0.length : Int) : Int).toNat ≤ 17592186044416
    · rw [if_pos c3] at H
      have c3b0 := eq_true c3
      have c3b1 : decide (((l0.length : Int) : Int).toNat ≤ 17592186044416) = true := decide_eq_true c3
      clear c3
      obtain ⟨y125, hy125⟩ : ∃ y_ : List (S78), y_ = (List.replicate ((l0.length : Int) : Int).toNat z78) := ⟨_, rfl⟩
      replace H : (laws_toSlotS.l0 k l0 y125 0) = some r := by first | (rw [hy125]; with_reducible exact H) | (have H2_ := (Option.bind_some _ _).symm.trans H; rw [hy125]; with_reducible exact H2_) | (have H2_ := (Option.bind_some _ _).symm.trans H; with_reducible exact H2_) | with_reducible exact H | (rw [hy125]; exact H) | exact H
      have Ny125 := Aside0.mk hy125
      clear hy125
      have H' := Aside0.mk H
      clear H
      go_enter Try.func39, Try.ntmps39
      go_wp2_with (first | ((with_reducible refine gate_dst (N := 7) rfl ?_); refine Kd.R_make k78 _ 78 rfl (N := 7) rfl 28 _ _ rfl (l0.length : Int) rfl rfl Try.underlying28 (.agg #[(.int .i64 0), (.int .i64 0)]) 16 info78 rfl (by decide) (by omega) z78 (ok := fun _ => True) (okp := fun _ => True) (k78_mkM _ _ _ z78 ) (fun _ hk => hk) trivial (of_decide_eq_true (by first | (with_reducible assumption) | assumption)) (Nat.le_trans (Nat.mul_le_mul_right _ (of_decide_eq_true (by first | (with_reducible assumption) | assumption) : (l0.length : Int).toNat ≤ 17592186044416)) (by omega)) (Below.refl _ _) (Nat.le_refl _) ?_; intro v126 w4 ho5 hb hg_ hnew_; clear hg_ hnew_; (first | rw [← Ny125.out] at ho5 | (simp only [Int.reduceToNat] at ho5; rw [← Ny125.out] at ho5)); have n0_ := Aside0.mk (Kd.R_lower ho5 (below_size (hb_ HB.out))); have n1_ := Aside0.mk (below_step (hb_ HB.out) hb); clear HB; have HO127 := n0_; have HB := n1_; clear n0_ n1_; clear hb ho5))
      go_loopg [4] k (fun kq v4 w' => ∃ (x3_1 : List (S78)) (x4_1 : Int), v4 = .int .i64 x4_1 ∧ Aside0 (laws_toSlotS.l0 kq l0 x3_1 x4_1 = some r) ∧ Aside0 (kq ≤ k) ∧ Aside0 (Kd.R k78 78 w' w.heap.size (fun _ => True) v126 x3_1) ∧ Aside0 (Below w.heap.size w w'))
      case atStart => exact ⟨(y125), (0), (by first | rfl | (simp; done) | (simp [*]; done)), H', ⟨Nat.le_refl _⟩, ⟨by (with_reducible repeat (first | apply Kd.R_alloc | apply Kd.R_drewN | apply Kd.R_drew)); exact HO127.out⟩, ⟨hb_ HB.out⟩⟩
      case round =>
        clear H'
        try clear c2
        try clear c2b0
        try clear c2b1
        try clear p2
        try clear c3
        try clear c3b0
        try clear c3b1
        obtain ⟨x3_1, x4_1, rfl, HA, HK1, HO_3, HB⟩ := hrel
        cases gk with
        | zero => exact absurd HA.out (by simp [laws_toSlotS.l0])
        | succ k1 =>
          have H := HA.out
          clear HA
          simp only [laws_toSlotS.l0] at H
          by_cases c6 : x4_1 < (l0.length : Int)
          · rw [if_pos c6] at H
            have c6b0 : decide (x4_1 < (l0.length : Int)) = true := decide_eq_true c6
            clear c6
            by_cases c7 : 0 ≤ x4_1
            · rw [if_pos c7] at H
              have c7b0 : decide (0 ≤ x4_1) = true := decide_eq_true c7
              clear c7
              replace H := Option.bind_eq_some_iff.mp H
              obtain ⟨⟨t129, t130⟩, A80, H⟩ := H
              replace H : (if x4_1 < (x3_1.length : Int) then (laws_toSlotS.l0 k1 l0 (x3_1.set (x4_1 : Int).toNat (⟨t129, t130⟩ : S78)) (wrap64 (x4_1 + 1))) else (none)) = some r := H
              have A8 := Aside0.mk A80
              clear A80
              by_cases c9 : x4_1 < (x3_1.length : Int)
              · rw [if_pos c9] at H
                have c9b0 : decide (x4_1 < (x3_1.length : Int)) = true := decide_eq_true c9
                clear c9
                obtain ⟨y131, hy131⟩ : ∃ y_ : List (S78), y_ = (x3_1.set (x4_1 : Int).toNat (⟨t129, t130⟩ : S78)) := ⟨_, rfl⟩
                replace H : (laws_toSlotS.l0 k1 l0 y131 (wrap64 (x4_1 + 1))) = some r := by first | (rw [hy131]; with_reducible exact H) | (have H2_ := (Option.bind_some _ _).symm.trans H; rw [hy131]; with_reducible exact H2_) | (have H2_ := (Option.bind_some _ _).symm.trans H; with_reducible exact H2_) | with_reducible exact H | (rw [hy131]; exact H) | exact H
                have Ny131 := Aside0.mk hy131
                clear hy131
                have H' := Aside0.mk H
                clear H
                have p128 : 0 ≤ (x4_1 : Int) := of_decide_eq_true (by first | (with_reducible assumption) | assumption)
                have q128 : x4_1 < (l0.length : Int) := of_decide_eq_true (by first | (with_reducible assumption) | assumption)
                obtain ⟨ad128, e128, hx128_0, hx128_1⟩ := at_T109 HR0.out x4_1 p128 q128
                cases e128
                replace hx128_0 := (HB.out.cell (World.block_lt_of_cell? w _ hx128_0)).trans hx128_0
                replace hx128_1 := (HB.out.cell (World.block_lt_of_cell? w _ hx128_1)).trans hx128_1
                replace p128 := eq_true p128
                replace q128 := eq_true q128
                go_wp2_with (first | ((with_reducible refine gate_callee (f := 75) rfl ?_); refine goesL_ (some 20) rfl rfl Try.func75 (by kernel_rfl) rfl #[.agg #[.int .i64 ((rd_T109 l0 x4_1).f0), .int .i64 ((rd_T109 l0 x4_1).f1)]] rfl arr_ ?_; (with_reducible refine (laws_toSlot.calls ((rd_T109 l0 x4_1).f0) ((rd_T109 l0 x4_1).f1) t129 t130 _ A8.out).mono ?_); rintro e w11 ⟨rfl, hb⟩; refine ⟨_, rfl, ?_⟩; have n0_ := Aside0.mk (Kd.R_below (by (with_reducible repeat (first | apply Kd.R_alloc | apply Kd.R_drewN | apply Kd.R_drew)); exact HO_3.out) hb); have n1_ := Aside0.mk (below_step (hb_ HB.out) hb); clear HO_3; clear HB; have HO_3 := n0_; have HB := n1_; clear n0_ n1_; (try clear hb); (try clear hb2); (try clear hk); (try clear hi); have p10 : 0 ≤ (x4_1 : Int) := of_decide_eq_true (by first | (with_reducible assumption) | assumption); have q10 : (x4_1 : Int) < ((x3_1.length : Int) : Int) := of_decide_eq_true (by first | (with_reducible assumption) | assumption); obtain ⟨go10, co10, eo10, gb10, gl10, cl10, HG10⟩ := Kd.R_form HO_3.out (by omega); (first | cases eo10 | (injection eo10 with ea_ en_ ec_; (first | subst ea_ | (injection ea_ with ea_; subst ea_)); subst ec_; clear en_)); have GB10 := Aside0.mk gb10; have GG10 := Aside0.mk HG10; clear gb10 gl10 HG10; obtain ⟨ce10, hcl10, hM10, hcc10, hfr10⟩ := Kd.R_elem HO_3.out z78 (x4_1 : Int) p10 q10; obtain rfl := k78_openM hM10; have hx10_0 : w11.cell? ⟨go10, (x4_1 : Int).toNat * 2, none⟩ = some (.int .i64 ((rd_T78 x3_1 x4_1).f0)) := hcc10 0 _ rfl; have hx10_1 : w11.cell? ⟨go10, (x4_1 : Int).toNat * 2 + 1, none⟩ = some (.int .i64 ((rd_T78 x3_1 x4_1).f1)) := hcc10 1 _ rfl; have hf10_0 : w11.frozen? ⟨go10, (x4_1 : Int).toNat * 2, none⟩ = false := hfr10 0; have hf10_1 : w11.frozen? ⟨go10, (x4_1 : Int).toNat * 2 + 1, none⟩ = false := hfr10 1; clear hcl10 hcc10 hfr10 hM10; replace p10 := eq_true p10; replace q10 := eq_true q10; have HX12 := Aside0.mk (show Kd.R k78 78 w11 w.heap.size (fun _ => True) (.slice (some ⟨go10, 0, none⟩) x3_1.length co10) x3_1 from (by (with_reducible repeat (first | apply Kd.R_alloc | apply Kd.R_drewN | apply Kd.R_drew)); exact HO_3.out)); obtain ⟨ce12, hcl12, hM12, hcc12, hfr12⟩ := Kd.R_elem HX12.out z78 (x4_1 : Int) (of_decide_eq_true (by first | (with_reducible assumption) | assumption)) (by have h_ : (x4_1 : Int) < ((x3_1.length : Int) : Int) := of_decide_eq_true (by first | (with_reducible assumption) | assumption); first | exact h_ | (have e_ := (Kd.R_reads' HO_3.out).1; omega) | simpa using h_); obtain rfl := k78_openM hM12; have HP12 := Kd.R_seg HX12.out (x4_1 : Int) (of_decide_eq_true (by first | (with_reducible assumption) | assumption)) (by have h_ : (x4_1 : Int) < ((x3_1.length : Int) : Int) := of_decide_eq_true (by first | (with_reducible assumption) | assumption); first | exact h_ | (have e_ := (Kd.R_reads' HO_3.out).1; omega) | simpa using h_) (seg := [.int .i64 t129, .int .i64 t130]) (j := 0) hcl12 hcc12 (show 2 ≤ 2 from by decide) (x' := (⟨t129, t130⟩ : S78)) (k78_mkM _ _ _ (⟨t129, t130⟩ : S78) ) (fun _ hk => hk); have hx12_0 := hcc12 0 _ rfl; (try simp only [show (k78).sz = 2 from rfl, Nat.mul_one, Nat.add_zero] at hx12_0); have hf12_0 := hfr12 0; (try simp only [show (k78).sz = 2 from rfl, Nat.mul_one, Nat.add_zero] at hf12_0); have hx12_1 := hcc12 1 _ rfl; (try simp only [show (k78).sz = 2 from rfl, Nat.mul_one, Nat.add_zero] at hx12_1); have hf12_1 := hfr12 1; (try simp only [show (k78).sz = 2 from rfl, Nat.mul_one, Nat.add_zero] at hf12_1); clear hcl12 hcc12 hfr12 hM12) | ((with_reducible refine gate_store (t := 78) (p := 21) rfl ?_); refine store_event (t := 78) (p := 21) (v := ?vo_w13) (w1 := ((w11.setCell ⟨go10, (x4_1 : Int).toNat * 2, none⟩ (.int .i64 t129)).setCell ⟨go10, (x4_1 : Int).toNat * 2 + 1, none⟩ (.int .i64 t130))) ?hg ?ho ?hn ?hr ?_; (case ho => rfl); (case hg => rfl); (case hn => rfl); (case hr => first | (go_simp; done) | (go_simp; rfl)); intro w13 hw; have hg : w11.grownBy w13 (some go10) := (by rw [hw]; exact HP12.2); have hp_ : Kd.R k78 78 w13 w.heap.size (fun _ => True) (.slice (some ⟨go10, 0, none⟩) x3_1.length co10) y131 := (by rw [hw, Ny131.out]; exact HP12.1); clear HP12; have n0_ := Aside0.mk (hp_); have n1_ := Aside0.mk ((by rw [hw]; exact below_set (below_set (HB.out) GB10.out) GB10.out : Below w.heap.size w w13)); clear HO_3; clear HB; have HO_3 := n0_; have HB := n1_; clear n0_ n1_; clear hg hw hp_))
                go_roundg k1
                case measure => have := HK1.out; omega
                case rel => exact ⟨(y131), (wrap64 (x4_1 + 1)), (by first | rfl | (simp; done) | (simp [*]; done)), H', ⟨by have := HK1.out; omega⟩, ⟨by (with_reducible repeat (first | apply Kd.R_alloc | apply Kd.R_drewN | apply Kd.R_drew)); exact HO_3.out⟩, ⟨hb_ HB.out⟩⟩
              · rw [if_neg c9] at H
                exact absurd H (by simp)
            · rw [if_neg c7] at H
              exact absurd H (by simp)
          · rw [if_neg c6] at H
            have c6b0 : decide (x4_1 < (l0.length : Int)) = false := decide_eq_false c6
            clear c6
            obtain rfl := Option.some.inj H
            go_wp2
            go_ret
            exact ⟨_, er_, by (with_reducible repeat (first | apply Kd.R_alloc | apply Kd.R_drewN | apply Kd.R_drew)); exact HO_3.out, hb_ HB.out⟩
    · rw [if_neg c3] at H
      exact absurd H (by simp)
  · rw [if_neg c2] at H
    exact absurd H (by simp)
end Go.Proofs.Ytcbglmoeogbakaa.P
