-- Printed by a program of this session (wip/myprint.py, which drives the kit's print): what one function of the program does, and the proof that its call does so.
import Derived.Test.YtdklmjpimgeejaaProg
import Derived.Below
import Derived.Deep.Draws
import Derived.Deep.AppendLies
import Derived.Maps.AppendAt
import Derived.OwnWalk
import Derived.Laws.BytesArg
import Derived.Laws.MakeOwn
import Derived.Laws.OwnMore
import Derived.Deep.OwnRows
import Derived.Tactics
import Derived.Lib.ConvBytes
import Derived.Laws.Slices
import Derived.WalkKit
import Derived.KernelRfl
import Derived.RowKit3
import Derived.Deep.LoopGhost
import Derived.Deep.QuietTactic
import Derived.BigQuiet
import Derived.WideLaws
import Derived.Deep.DeepCutAuto
import Derived.Deep.CutBlock
import Derived.Deep.RegionHeld3
import Derived.Laws.Rows
import Derived.Lib.AppendStr
import Derived.ArgAppend
import Derived.Laws.IdiomCopy
import Derived.OrdersHeld
import Derived.Laws.BitsLemmas
import Derived.RowKit
import Derived.Shelf.Abstract
import Derived.Deep.Slices
import Derived.Deep.Fields
import Derived.ChangeSame
import Derived.Lib.Hide
import Derived.Deep.DeepFit
import Derived.Test.YtdklmjpimgeejaaWWords
import Derived.Test.YtdklmjpimgeejaaWLast
import Derived.Test.YtdklmjpimgeejaaWTab
import Derived.Test.YtdklmjpimgeejaaWQPut
import Derived.Test.YtdklmjpimgeejaaWApart
import Derived.Test.YtdklmjpimgeejaaWArr
import Derived.Test.YtdklmjpimgeejaaWZeros
import Derived.Test.YtdklmjpimgeejaaWFoot
import Derived.Test.YtdklmjpimgeejaaWKept
import Derived.Test.YtdklmjpimgeejaaWShare
import Derived.Test.YtdklmjpimgeejaaWN
import Derived.Test.YtdklmjpimgeejaaWEqStruct
import Derived.Test.YtdklmjpimgeejaaWRepsOne
import Derived.Test.YtdklmjpimgeejaaWGuard
import Derived.Test.YtdklmjpimgeejaaWNEv
import Derived.Test.YtdklmjpimgeejaaWMore
namespace Go.Proofs.Ytdklmjpimgeejaa.P
open Go.RowKit Go.Proofs.YtdklmjpimgeejaaW.PrintWords Go.Proofs.YtdklmjpimgeejaaW.PrintLast Go.Proofs.YtdklmjpimgeejaaW.PrintMore
attribute [local go_sem] max2_int min2_int max_two min_two max_three min_three max_four min_four   -- for this text's walks alone
set_option linter.unusedVariables false
set_option linter.unusedSimpArgs false

def errW : Option Int → Value
 | none => .nilIface
 | some c => .iface 0 (.int .i64 c)
theorem errW_none : errW none = .nilIface := rfl
theorem errW_some (c : Int) : errW (some c) = .iface 0 (.int .i64 c) := rfl

theorem info3 : (Try.prog.info? 3).map (fun i => (i.zero, i.size, i.bytes)) = some (some (.int .i64 0), 1, 8) := by kernel_rfl
theorem info4 : (Try.prog.info? 4).map (fun i => (i.zero, i.size, i.bytes)) = some (some (.bool false), 1, 1) := by kernel_rfl
theorem info34 : (Try.prog.info? 34).map (fun i => (i.zero, i.size, i.bytes)) = some (some (.slice none 0 0), 1, 24) := by kernel_rfl
theorem info45 : (Try.prog.info? 45).map (fun i => (i.zero, i.size, i.bytes)) = some (some (.agg #[(.int .i64 0), (.int .i64 0)]), 2, 16) := by kernel_rfl
theorem info47 : (Try.prog.info? 47).map (fun i => (i.zero, i.size, i.bytes)) = some (some (.agg #[(.int .i64 0), (.int .i64 0)]), 2, 16) := by kernel_rfl
-- the values' own types
/-! #### struct type 47 -/
structure S47 where
 f0 : Int
 f1 : Int
def z47 : S47 := ⟨(0 : Int), (0 : Int)⟩
def k47 : Kd S47 := Kd.iso (Kd.pair (Kd.int .i64) (Kd.int .i64)) (fun x : S47 => (x.f0, x.f1))
theorem k47_open {w : World} {x : S47} {cs : List Value} (h : k47.K w x cs) : cs = [.int .i64 x.f0, .int .i64 x.f1] := by
 obtain ⟨_, _, rfl, rfl, rfl⟩ := h
 exact rfl
theorem k47_openM {w : World} {base : Nat} {ok : Nat → Prop} {x : S47} {cs : List Value} (h : k47.M w base ok x cs) : cs = [.int .i64 x.f0, .int .i64 x.f1] := by
 obtain ⟨_, _, rfl, rfl, rfl⟩ := h
 exact rfl
theorem k47_mk (w : World) (x : S47)  : k47.K w x [.int .i64 x.f0, .int .i64 x.f1] := ⟨[.int .i64 x.f0], [.int .i64 x.f1], rfl, rfl, rfl⟩
theorem k47_mkM (w : World) (base : Nat) (ok : Nat → Prop) (x : S47)  : k47.M w base ok x [.int .i64 x.f0, .int .i64 x.f1] := ⟨[.int .i64 x.f0], [.int .i64 x.f1], rfl, rfl, rfl⟩
def rd_T47 (xs : List S47) (i : Int) : S47 := xs.getD i.toNat z47
theorem at_T47 {w : World} {A : Option Addr} {n : Nat} {xs : List S47} (h : Kd.C k47 w A n xs) (i : Int) (h0 : 0 ≤ i) (h1 : i < n) : ∃ ad , A = some ad ∧ w.cell? (ad.add (i.toNat * 2)) = some (.int .i64 (rd_T47 xs i).f0) ∧ w.cell? ⟨(ad.add (i.toNat * 2)).block, (ad.add (i.toNat * 2)).off + 1, none⟩ = some (.int .i64 (rd_T47 xs i).f1) := by
 obtain ⟨ad, c, e, _, hK, hc0⟩ := Kd.C_get h z47 i h0 h1
 have hc : ∀ j u, c[j]? = some u → w.cell? (ad.add (i.toNat * 2 + j)) = some u := hc0
 obtain rfl := k47_open hK
 exact ⟨ad, e, hc 0 _ rfl, by rw [← add_field _ _ 1 (by omega)]; exact hc 1 _ rfl⟩

/-! #### struct type 45 -/
structure S45 where
 f0 : Int
 f1 : Int
def z45 : S45 := ⟨(0 : Int), (0 : Int)⟩
def k45 : Kd S45 := Kd.iso (Kd.pair (Kd.int .i64) (Kd.int .i64)) (fun x : S45 => (x.f0, x.f1))
theorem k45_open {w : World} {x : S45} {cs : List Value} (h : k45.K w x cs) : cs = [.int .i64 x.f0, .int .i64 x.f1] := by
 obtain ⟨_, _, rfl, rfl, rfl⟩ := h
 exact rfl
theorem k45_openM {w : World} {base : Nat} {ok : Nat → Prop} {x : S45} {cs : List Value} (h : k45.M w base ok x cs) : cs = [.int .i64 x.f0, .int .i64 x.f1] := by
 obtain ⟨_, _, rfl, rfl, rfl⟩ := h
 exact rfl
theorem k45_mk (w : World) (x : S45)  : k45.K w x [.int .i64 x.f0, .int .i64 x.f1] := ⟨[.int .i64 x.f0], [.int .i64 x.f1], rfl, rfl, rfl⟩
theorem k45_mkM (w : World) (base : Nat) (ok : Nat → Prop) (x : S45)  : k45.M w base ok x [.int .i64 x.f0, .int .i64 x.f1] := ⟨[.int .i64 x.f0], [.int .i64 x.f1], rfl, rfl, rfl⟩
def rd_T45 (xs : List S45) (i : Int) : S45 := xs.getD i.toNat z45
theorem at_T45 {w : World} {A : Option Addr} {n : Nat} {xs : List S45} (h : Kd.C k45 w A n xs) (i : Int) (h0 : 0 ≤ i) (h1 : i < n) : ∃ ad , A = some ad ∧ w.cell? (ad.add (i.toNat * 2)) = some (.int .i64 (rd_T45 xs i).f0) ∧ w.cell? ⟨(ad.add (i.toNat * 2)).block, (ad.add (i.toNat * 2)).off + 1, none⟩ = some (.int .i64 (rd_T45 xs i).f1) := by
 obtain ⟨ad, c, e, _, hK, hc0⟩ := Kd.C_get h z45 i h0 h1
 have hc : ∀ j u, c[j]? = some u → w.cell? (ad.add (i.toNat * 2 + j)) = some u := hc0
 obtain rfl := k45_open hK
 exact ⟨ad, e, hc 0 _ rfl, by rw [← add_field _ _ 1 (by omega)]; exact hc 1 _ rfl⟩

def rd_L3 (xs : List (List S45)) (i : Int) : (List S45) := xs.getD i.toNat ([] : List S45)
theorem at_L3 {w : World} {A : Option Addr} {n : Nat} {xs : List (List S45)} (h : Kd.C (Kd.slice 45 k45) w A n xs) (i : Int) (h0 : 0 ≤ i) (h1 : i < n) : ∃ ad A0 c0, A = some ad ∧ w.cell? (ad.add i.toNat) = some (.slice A0 (rd_L3 xs i).length c0) ∧ (rd_L3 xs i).length ≤ c0 ∧ k45.C w A0 (rd_L3 xs i).length (rd_L3 xs i) := by
 obtain ⟨ad, c, e, _, hK, hc0⟩ := Kd.C_get h ([] : List S45) i h0 h1
 have hc : ∀ j u, c[j]? = some u → w.cell? (ad.add (i.toNat * 1 + j)) = some u := hc0
 obtain ⟨A0, c0, rfl, l0, g0⟩ := hK
 exact ⟨ad, A0, c0, e, by have hq := hc 0 _ rfl; rwa [Nat.mul_one, Nat.add_zero] at hq, l0, g0⟩

def rd_L4 (xs : List (List Int)) (i : Int) : (List Int) := xs.getD i.toNat ([] : List Int)
theorem at_L4 {w : World} {A : Option Addr} {n : Nat} {xs : List (List Int)} (h : Kd.C (Kd.slice 3 (Kd.int .i64)) w A n xs) (i : Int) (h0 : 0 ≤ i) (h1 : i < n) : ∃ ad A0 c0, A = some ad ∧ w.cell? (ad.add i.toNat) = some (.slice A0 (rd_L4 xs i).length c0) ∧ (rd_L4 xs i).length ≤ c0 ∧ (Kd.int .i64).C w A0 (rd_L4 xs i).length (rd_L4 xs i) := by
 obtain ⟨ad, c, e, _, hK, hc0⟩ := Kd.C_get h ([] : List Int) i h0 h1
 have hc : ∀ j u, c[j]? = some u → w.cell? (ad.add (i.toNat * 1 + j)) = some u := hc0
 obtain ⟨A0, c0, rfl, l0, g0⟩ := hK
 exact ⟨ad, A0, c0, e, by have hq := hc 0 _ rfl; rwa [Nat.mul_one, Nat.add_zero] at hq, l0, g0⟩

def rd_L5 (xs : List (List (List Int))) (i : Int) : (List (List Int)) := xs.getD i.toNat ([] : List (List Int))
theorem at_L5 {w : World} {A : Option Addr} {n : Nat} {xs : List (List (List Int))} (h : Kd.C (Kd.slice 34 (Kd.slice 3 (Kd.int .i64))) w A n xs) (i : Int) (h0 : 0 ≤ i) (h1 : i < n) : ∃ ad A0 c0, A = some ad ∧ w.cell? (ad.add i.toNat) = some (.slice A0 (rd_L5 xs i).length c0) ∧ (rd_L5 xs i).length ≤ c0 ∧ (Kd.slice 3 (Kd.int .i64)).C w A0 (rd_L5 xs i).length (rd_L5 xs i) := by
 obtain ⟨ad, c, e, _, hK, hc0⟩ := Kd.C_get h ([] : List (List Int)) i h0 h1
 have hc : ∀ j u, c[j]? = some u → w.cell? (ad.add (i.toNat * 1 + j)) = some u := hc0
 obtain ⟨A0, c0, rfl, l0, g0⟩ := hK
 exact ⟨ad, A0, c0, e, by have hq := hc 0 _ rfl; rwa [Nat.mul_one, Nat.add_zero] at hq, l0, g0⟩

/-! #### struct type 43 -/
structure S43 where
 f0 : (List S45)
 f1 : Int
 f2 : Int
 f3 : (List Int)
 f4 : (List (List Int))
 f5 : (List Int)
def z43 : S43 := ⟨([] : List S45), (0 : Int), (0 : Int), ([] : List Int), ([] : List (List Int)), ([] : List Int)⟩
def k43 : Kd S43 := Kd.iso (Kd.pair (Kd.slice 45 k45) (Kd.pair (Kd.int .i64) (Kd.pair (Kd.int .i64) (Kd.pair (Kd.slice 3 (Kd.int .i64)) (Kd.pair (Kd.slice 34 (Kd.slice 3 (Kd.int .i64))) (Kd.slice 3 (Kd.int .i64))))))) (fun x : S43 => (x.f0, x.f1, x.f2, x.f3, x.f4, x.f5))
theorem k43_open {w : World} {x : S43} {cs : List Value} (h : k43.K w x cs) : ∃ A0 c0 A3 c3 A4 c4 A5 c5, cs = [.slice A0 x.f0.length c0, .int .i64 x.f1, .int .i64 x.f2, .slice A3 x.f3.length c3, .slice A4 x.f4.length c4, .slice A5 x.f5.length c5] ∧ x.f0.length ≤ c0 ∧ k45.C w A0 x.f0.length x.f0 ∧ x.f3.length ≤ c3 ∧ (Kd.int .i64).C w A3 x.f3.length x.f3 ∧ x.f4.length ≤ c4 ∧ (Kd.slice 3 (Kd.int .i64)).C w A4 x.f4.length x.f4 ∧ x.f5.length ≤ c5 ∧ (Kd.int .i64).C w A5 x.f5.length x.f5 := by
 obtain ⟨_, _, rfl, ⟨A0, c0, rfl, l0, g0⟩, ⟨_, _, rfl, rfl, ⟨_, _, rfl, rfl, ⟨_, _, rfl, ⟨A3, c3, rfl, l3, g3⟩, ⟨_, _, rfl, ⟨A4, c4, rfl, l4, g4⟩, ⟨A5, c5, rfl, l5, g5⟩⟩⟩⟩⟩⟩ := h
 exact ⟨A0, c0, A3, c3, A4, c4, A5, c5, rfl, l0, g0, l3, g3, l4, g4, l5, g5⟩
theorem k43_openM {w : World} {base : Nat} {ok : Nat → Prop} {x : S43} {cs : List Value} (h : k43.M w base ok x cs) : ∃ v0 v3 v4 v5, cs = [v0, .int .i64 x.f1, .int .i64 x.f2, v3, v4, v5] ∧ k45.R 45 w base ok v0 x.f0 ∧ (Kd.int .i64).R 3 w base ok v3 x.f3 ∧ (Kd.slice 3 (Kd.int .i64)).R 34 w base ok v4 x.f4 ∧ (Kd.int .i64).R 3 w base ok v5 x.f5 := by
 obtain ⟨_, _, rfl, ⟨v0, rfl, g0⟩, ⟨_, _, rfl, rfl, ⟨_, _, rfl, rfl, ⟨_, _, rfl, ⟨v3, rfl, g3⟩, ⟨_, _, rfl, ⟨v4, rfl, g4⟩, ⟨v5, rfl, g5⟩⟩⟩⟩⟩⟩ := h
 exact ⟨v0, v3, v4, v5, rfl, g0, g3, g4, g5⟩
theorem k43_mk (w : World) (x : S43) {A0 : Option Addr} {c0 : Nat} (l0 : x.f0.length ≤ c0) (g0 : k45.C w A0 x.f0.length x.f0) {A3 : Option Addr} {c3 : Nat} (l3 : x.f3.length ≤ c3) (g3 : (Kd.int .i64).C w A3 x.f3.length x.f3) {A4 : Option Addr} {c4 : Nat} (l4 : x.f4.length ≤ c4) (g4 : (Kd.slice 3 (Kd.int .i64)).C w A4 x.f4.length x.f4) {A5 : Option Addr} {c5 : Nat} (l5 : x.f5.length ≤ c5) (g5 : (Kd.int .i64).C w A5 x.f5.length x.f5) : k43.K w x [.slice A0 x.f0.length c0, .int .i64 x.f1, .int .i64 x.f2, .slice A3 x.f3.length c3, .slice A4 x.f4.length c4, .slice A5 x.f5.length c5] := ⟨[.slice A0 x.f0.length c0], [.int .i64 x.f1, .int .i64 x.f2, .slice A3 x.f3.length c3, .slice A4 x.f4.length c4, .slice A5 x.f5.length c5], rfl, ⟨A0, c0, rfl, l0, g0⟩, ⟨[.int .i64 x.f1], [.int .i64 x.f2, .slice A3 x.f3.length c3, .slice A4 x.f4.length c4, .slice A5 x.f5.length c5], rfl, rfl, ⟨[.int .i64 x.f2], [.slice A3 x.f3.length c3, .slice A4 x.f4.length c4, .slice A5 x.f5.length c5], rfl, rfl, ⟨[.slice A3 x.f3.length c3], [.slice A4 x.f4.length c4, .slice A5 x.f5.length c5], rfl, ⟨A3, c3, rfl, l3, g3⟩, ⟨[.slice A4 x.f4.length c4], [.slice A5 x.f5.length c5], rfl, ⟨A4, c4, rfl, l4, g4⟩, ⟨A5, c5, rfl, l5, g5⟩⟩⟩⟩⟩⟩
theorem k43_mkM (w : World) (base : Nat) (ok : Nat → Prop) (x : S43) {v0 : Value} (g0 : k45.R 45 w base ok v0 x.f0) {v3 : Value} (g3 : (Kd.int .i64).R 3 w base ok v3 x.f3) {v4 : Value} (g4 : (Kd.slice 3 (Kd.int .i64)).R 34 w base ok v4 x.f4) {v5 : Value} (g5 : (Kd.int .i64).R 3 w base ok v5 x.f5) : k43.M w base ok x [v0, .int .i64 x.f1, .int .i64 x.f2, v3, v4, v5] := ⟨[v0], [.int .i64 x.f1, .int .i64 x.f2, v3, v4, v5], rfl, ⟨v0, rfl, g0⟩, ⟨[.int .i64 x.f1], [.int .i64 x.f2, v3, v4, v5], rfl, rfl, ⟨[.int .i64 x.f2], [v3, v4, v5], rfl, rfl, ⟨[v3], [v4, v5], rfl, ⟨v3, rfl, g3⟩, ⟨[v4], [v5], rfl, ⟨v4, rfl, g4⟩, ⟨v5, rfl, g5⟩⟩⟩⟩⟩⟩
def rd_T43 (xs : List S43) (i : Int) : S43 := xs.getD i.toNat z43
theorem at_T43 {w : World} {A : Option Addr} {n : Nat} {xs : List S43} (h : Kd.C k43 w A n xs) (i : Int) (h0 : 0 ≤ i) (h1 : i < n) : ∃ ad A0 c0 A3 c3 A4 c4 A5 c5, A = some ad ∧ w.cell? (ad.add (i.toNat * 6)) = some (.slice A0 (rd_T43 xs i).f0.length c0) ∧ w.cell? ⟨(ad.add (i.toNat * 6)).block, (ad.add (i.toNat * 6)).off + 1, none⟩ = some (.int .i64 (rd_T43 xs i).f1) ∧ w.cell? ⟨(ad.add (i.toNat * 6)).block, (ad.add (i.toNat * 6)).off + 2, none⟩ = some (.int .i64 (rd_T43 xs i).f2) ∧ w.cell? ⟨(ad.add (i.toNat * 6)).block, (ad.add (i.toNat * 6)).off + 3, none⟩ = some (.slice A3 (rd_T43 xs i).f3.length c3) ∧ w.cell? ⟨(ad.add (i.toNat * 6)).block, (ad.add (i.toNat * 6)).off + 4, none⟩ = some (.slice A4 (rd_T43 xs i).f4.length c4) ∧ w.cell? ⟨(ad.add (i.toNat * 6)).block, (ad.add (i.toNat * 6)).off + 5, none⟩ = some (.slice A5 (rd_T43 xs i).f5.length c5) ∧ (rd_T43 xs i).f0.length ≤ c0 ∧ k45.C w A0 (rd_T43 xs i).f0.length (rd_T43 xs i).f0 ∧ (rd_T43 xs i).f3.length ≤ c3 ∧ (Kd.int .i64).C w A3 (rd_T43 xs i).f3.length (rd_T43 xs i).f3 ∧ (rd_T43 xs i).f4.length ≤ c4 ∧ (Kd.slice 3 (Kd.int .i64)).C w A4 (rd_T43 xs i).f4.length (rd_T43 xs i).f4 ∧ (rd_T43 xs i).f5.length ≤ c5 ∧ (Kd.int .i64).C w A5 (rd_T43 xs i).f5.length (rd_T43 xs i).f5 := by
 obtain ⟨ad, c, e, _, hK, hc0⟩ := Kd.C_get h z43 i h0 h1
 have hc : ∀ j u, c[j]? = some u → w.cell? (ad.add (i.toNat * 6 + j)) = some u := hc0
 obtain ⟨A0, c0, A3, c3, A4, c4, A5, c5, rfl, l0, g0, l3, g3, l4, g4, l5, g5⟩ := k43_open hK
 exact ⟨ad, A0, c0, A3, c3, A4, c4, A5, c5, e, hc 0 _ rfl, by rw [← add_field _ _ 1 (by omega)]; exact hc 1 _ rfl, by rw [← add_field _ _ 2 (by omega)]; exact hc 2 _ rfl, by rw [← add_field _ _ 3 (by omega)]; exact hc 3 _ rfl, by rw [← add_field _ _ 4 (by omega)]; exact hc 4 _ rfl, by rw [← add_field _ _ 5 (by omega)]; exact hc 5 _ rfl, l0, g0, l3, g3, l4, g4, l5, g5⟩

def rd_L8 (xs : List (List Bool)) (i : Int) : (List Bool) := xs.getD i.toNat ([] : List Bool)
theorem at_L8 {w : World} {A : Option Addr} {n : Nat} {xs : List (List Bool)} (h : Kd.C (Kd.slice 4 Kd.bool) w A n xs) (i : Int) (h0 : 0 ≤ i) (h1 : i < n) : ∃ ad A0 c0, A = some ad ∧ w.cell? (ad.add i.toNat) = some (.slice A0 (rd_L8 xs i).length c0) ∧ (rd_L8 xs i).length ≤ c0 ∧ Kd.bool.C w A0 (rd_L8 xs i).length (rd_L8 xs i) := by
 obtain ⟨ad, c, e, _, hK, hc0⟩ := Kd.C_get h ([] : List Bool) i h0 h1
 have hc : ∀ j u, c[j]? = some u → w.cell? (ad.add (i.toNat * 1 + j)) = some u := hc0
 obtain ⟨A0, c0, rfl, l0, g0⟩ := hK
 exact ⟨ad, A0, c0, e, by have hq := hc 0 _ rfl; rwa [Nat.mul_one, Nat.add_zero] at hq, l0, g0⟩

def rd_L9 (xs : List (List S47)) (i : Int) : (List S47) := xs.getD i.toNat ([] : List S47)
theorem at_L9 {w : World} {A : Option Addr} {n : Nat} {xs : List (List S47)} (h : Kd.C (Kd.slice 47 k47) w A n xs) (i : Int) (h0 : 0 ≤ i) (h1 : i < n) : ∃ ad A0 c0, A = some ad ∧ w.cell? (ad.add i.toNat) = some (.slice A0 (rd_L9 xs i).length c0) ∧ (rd_L9 xs i).length ≤ c0 ∧ k47.C w A0 (rd_L9 xs i).length (rd_L9 xs i) := by
 obtain ⟨ad, c, e, _, hK, hc0⟩ := Kd.C_get h ([] : List S47) i h0 h1
 have hc : ∀ j u, c[j]? = some u → w.cell? (ad.add (i.toNat * 1 + j)) = some u := hc0
 obtain ⟨A0, c0, rfl, l0, g0⟩ := hK
 exact ⟨ad, A0, c0, e, by have hq := hc 0 _ rfl; rwa [Nat.mul_one, Nat.add_zero] at hq, l0, g0⟩

/-! #### what comes in is read: slices and structs, whatever they hold (written by hand) -/
section
open Go.ChangeShapes Go.WideShapes Go.Deep
variable {H : Type} {enc : TypeId × Value → H} {P : Program} {w : World} {base : Nat} {spare : Nat → Bool} {held : Bool}
/-- What is read at type t is of the kind d. -/
def Tr {α : Type} (enc : TypeId × Value → H) (P : Program) (w : World) (base : Nat) (spare : Nat → Bool) (held : Bool) (t : TypeId) (d : Kd α) : Prop :=
 ∀ n cs x, DataW.trod enc P w base spare held n t cs = some x → ∃ p, d.K w p cs
theorem tr_int {t : TypeId} {k : IntKind} (ht : P.underlying t = some (.int k)) : Tr enc P w base spare held t (Kd.int k) := by
 intro n cs x h
 obtain ⟨z, hz, _⟩ := DataW.trod_int ht h
 exact ⟨z, hz⟩
theorem tr_struct2 {α β : Type} {a : Kd α} {b : Kd β} {t : TypeId} {f0 f1 : Field} (hs : P.underlying t = some (.struct #[f0, f1])) (h0 : f0.offset = 0) (h1 : f1.offset = P.cellsOf f0.type) (hc : P.cellsOf t = P.cellsOf f0.type + P.cellsOf f1.type)
  (T0 : Tr enc P w base spare held f0.type a) (T1 : Tr enc P w base spare held f1.type b) : Tr enc P w base spare held t (Kd.pair a b) := by
 intro n cs x h
 obtain ⟨xs, m, _, _, hl, hlen, hf⟩ := DataW.trod_struct hs h
 have e0 := hf 0 f0 rfl
 have e1 := hf 1 f1 rfl
 match xs, hlen with
 | [y0, y1], _ =>
  obtain ⟨p0, hp0⟩ := T0 m _ y0 e0
  obtain ⟨p1, hp1⟩ := T1 m _ y1 e1
  refine ⟨(p0, p1), _, _, ?_, hp0, hp1⟩
  rw [h0, h1, List.drop_zero]
  have : (cs.drop (P.cellsOf f0.type)).take (P.cellsOf f1.type) = cs.drop (P.cellsOf f0.type) := List.take_of_length_le (by rw [List.length_drop]; omega)
  rw [this, List.take_append_drop]
theorem tr_iso {α β : Type} {d : Kd α} {t : TypeId} (f : β → α) (g : α → β) (hfg : ∀ p, f (g p) = p) (h : Tr enc P w base spare held t d) : Tr enc P w base spare held t (Kd.iso d f) := by
 intro n cs x hx
 obtain ⟨p, hp⟩ := h n cs x hx
 exact ⟨g p, by show d.K w (f (g p)) cs; rw [hfg]; exact hp⟩
theorem reads_slice {α : Type} {d : Kd α} {t e : TypeId} {a : Option Addr} {len cap : Nat} {dd : DataW H} {p : List MemPlace} (T : Tr enc P w base spare held e d) (ht : P.underlying t = some (.slice e)) (hsz : P.cellsOf e = d.sz)
  (h : DataW.Trod enc P w base spare held t (.slice a len cap) dd p) : ∃ l : List α, l.length = len ∧ l.length ≤ maxLen ∧ l.length ≤ cap ∧ d.C w a l.length l := by
 obtain ⟨fuel, hf⟩ := h
 rcases open_slice ht hf with ⟨hcs, _⟩ | ⟨x, l, c, m, n, D, Pl, hcs, _, hl, hm, hmm, _, hi⟩
 ·simp [Value.cells] at hcs
  obtain ⟨rfl, rfl, rfl⟩ := hcs
  exact ⟨[], rfl, by simp, by simp, rfl, by simp, by simp⟩
 ·simp [Value.cells] at hcs
  obtain ⟨rfl, rfl, rfl⟩ := hcs
  have hlm : len ≤ m := by rw [hmm]; split <;> omega
  have hex : ∀ i, ∃ q : Option α, i < len → ∃ y, q = some y ∧ ∃ c, c.length = d.sz ∧ d.K w y c ∧ ∀ j u, c[j]? = some u → w.cell? (x.add (i * d.sz + j)) = some u := by
   intro i
   by_cases hil : i < len
   ·obtain ⟨cs', hc, htr⟩ := hi i (by omega)
    obtain ⟨y, hy⟩ := T n cs' _ htr
    obtain ⟨_, hcl, hat⟩ := World.cells?_some hc
    refine ⟨some y, fun _ => ⟨y, rfl, cs', by rw [hcl, hsz], hy, fun j u hu => ?_⟩⟩
    have hj : j < cs'.length := (List.getElem?_eq_some_iff.1 hu).1
    rw [← hsz, ← Go.Deep.add_add, hat j (by omega), hu]
   ·exact ⟨none, fun h => absurd h hil⟩
  have hch := fun i => Classical.choose_spec (hex i)
  generalize (fun i => Classical.choose (hex i)) = q at hch
  have key : ∀ m, m ≤ len → ∃ l : List α, l.length = m ∧ ∀ j y, l[j]? = some y → ∃ c, c.length = d.sz ∧ d.K w y c ∧ ∀ i u, c[i]? = some u → w.cell? (x.add (j * d.sz + i)) = some u := by
   intro m
   induction m with
   | zero => exact fun _ => ⟨[], rfl, fun j y h => by simp at h⟩
   | succ m ih =>
    intro hml
    obtain ⟨l, hl1, hl2⟩ := ih (by omega)
    obtain ⟨y, _, hy⟩ := hch m (by omega)
    refine ⟨l ++ [y], by simp [hl1], fun j z hz => ?_⟩
    rcases Nat.lt_or_ge j l.length with hj | hj
    ·rw [List.getElem?_append_left hj] at hz
     exact hl2 j z hz
    ·have hj' : j = l.length := by
      have := (List.getElem?_eq_some_iff.1 hz).1
      rw [List.length_append, List.length_singleton] at this
      omega
     subst hj'
     have : y = z := by simpa using hz
     subst this
     rw [hl1]
     exact hy
  obtain ⟨l, hl1, hl2⟩ := key len (Nat.le_refl _)
  refine ⟨l, hl1, by omega, by omega, rfl, by simp [maxLen] at hm; omega, fun _ => ⟨x, rfl, hl2⟩⟩
theorem reads_agg {α : Type} {d : Kd α} {t : TypeId} {fs : Array Field} {v : Value} {dd : DataW H} {p : List MemPlace} {r : Reach} {b0 : Nat} (T : Tr enc P w base spare held t d) (hs : P.underlying t = some (.struct fs))
  (h : DataW.Trod enc P w base spare held t v dd p) (hv : Value.okWide P w r b0 t v) : ∃ (x : α) (cs : Array Value), v = .agg cs ∧ d.K w x cs.toList := by
 obtain ⟨cs, rfl, hsz⟩ := okWide_struct hs hv
 obtain ⟨fuel, hf⟩ := h
 obtain ⟨y, hy⟩ := T _ _ _ hf
 exact ⟨y, cs, rfl, by simpa [Value.cells] using hy⟩
end

/-! #### lists: the first place at which a predicate holds -/
def idxB {α : Type} (p : α → Bool) (l : List α) : Int := if l.any p then (l.findIdx p : Int) else -1
theorem idxB_miss {α : Type} (p : α → Bool) (l : List α) (h : ∀ j, j < l.length → ∀ x, l[j]? = some x → p x = false) : idxB p l = -1 := by
 have : l.any p = false := by
  rw [List.any_eq_false]
  intro x hx
  obtain ⟨j, hj⟩ := List.getElem?_of_mem hx
  rw [h j (List.getElem?_eq_some_iff.1 hj).1 x hj]
  simp
 rw [idxB, this]; rfl
theorem idxB_hit {α : Type} (p : α → Bool) (l : List α) (k : Nat) (x : α) (hx : l[k]? = some x) (hp : p x = true) (h : ∀ j, j < k → ∀ x, l[j]? = some x → p x = false) : idxB p l = (k : Int) := by
 have h1 : l.any p = true := List.any_eq_true.2 ⟨x, List.mem_of_getElem? hx, hp⟩
 obtain ⟨hk, rfl⟩ := List.getElem?_eq_some_iff.1 hx
 rw [idxB, h1, if_pos rfl]
 congr 1
 rw [List.findIdx_eq hk]
 exact ⟨hp, fun j hj => by rw [h j hj _ (List.getElem?_eq_getElem (by omega))]⟩
theorem idxB_nonneg {α : Type} (p : α → Bool) (l : List α) : decide (idxB p l ≥ 0) = l.any p := by
 unfold idxB
 cases l.any p <;> simp
theorem idxB_nonneg' {α : Type} (p : α → Bool) (l : List α) : decide (0 ≤ idxB p l) = l.any p := idxB_nonneg p l

/-! #### an own row, cell by cell (written by hand) -/
/-- Of the first j places' elements those that are kept lie at the head; from place j on the row is as it was. -/
structure KeptL {α : Type} (q : α → Bool) (l : List α) (j i : Nat) (m : List α) : Prop where
 len : m.length = l.length
 lt : i < j
 le : j ≤ l.length
 low : m.take i = (l.take j).filter q
 high : ∀ t, j ≤ t → m[t]? = l[t]?
theorem KeptL.start {α : Type} {q : α → Bool} {l : List α} {k : Nat} (hk : k < l.length) (hq : q l[k] = false) (ha : ∀ t, t < k → ∀ x, l[t]? = some x → q x = true) : KeptL q l (k + 1) k l := by
 refine ⟨rfl, Nat.lt_succ_self _, hk, ?_, fun _ _ => rfl⟩
 rw [List.take_succ_eq_append_getElem hk, List.filter_append, List.filter_cons_of_neg (by rw [hq]; decide), List.filter_nil, List.append_nil, List.filter_eq_self.2]
 intro x hx
 obtain ⟨t, ht, rfl⟩ := List.getElem_of_mem hx
 simp only [List.length_take] at ht
 exact ha t (by omega) _ (by rw [List.getElem_take]; exact List.getElem?_eq_getElem (by omega))
theorem KeptL.keep {α : Type} {q : α → Bool} {l m : List α} {j i : Nat} (h : KeptL q l j i m) (hj : j < l.length) (hq : q l[j] = true) : KeptL q l (j + 1) (i + 1) (m.set i l[j]) := by
 have h1 := h.lt
 have h2 := h.len
 refine ⟨by simp [h.len], by omega, hj, ?_, fun t ht => by rw [List.getElem?_set_ne (by omega)]; exact h.high t (by omega)⟩
 rw [List.take_succ_eq_append_getElem hj, List.filter_append, ← h.low, List.filter_cons_of_pos hq, List.filter_nil, List.take_succ_eq_append_getElem (by simp; omega), List.take_set_of_le (Nat.le_refl _), List.getElem_set_self]
theorem KeptL.skip {α : Type} {q : α → Bool} {l m : List α} {j i : Nat} (h : KeptL q l j i m) (hj : j < l.length) (hq : q l[j] = false) : KeptL q l (j + 1) i m := by
 have h1 := h.lt
 refine ⟨h.len, by omega, hj, ?_, fun t ht => h.high t (by omega)⟩
 rw [List.take_succ_eq_append_getElem hj, List.filter_append, ← h.low, List.filter_cons_of_neg (by rw [hq]; decide), List.filter_nil, List.append_nil]
theorem heap_setCell_at {w : World} {g o : Nat} {v : Value} {cur : Array Value} {e : TypeId} {fr : Nat × Nat} (h : w.heap[g]? = some (.cells cur e fr)) : (w.setCell ⟨g, o, none⟩ v).heap[g]? = some (.cells (cur.setIfInBounds o v) e fr) := by
 simp [World.setCell, Array.getElem?_modify, h]
theorem below_row_set {w0 w : World} {B g o : Nat} {v : Value} (h : Below B w0 w) (hg : B ≤ g) : Below B w0 (w.setCell ⟨g, o, none⟩ v) := by
 refine h.trans ⟨rfl, rfl, rfl, by simp [World.setCell], fun k hk => ?_⟩
 simp only [World.setCell, Array.getElem?_modify]
 rw [if_neg (by omega)]
theorem heap_setCells_at {g : Nat} {e : TypeId} {fr : Nat × Nat} : ∀ (vs : List Value) (w : World) (o : Nat) (cur : Array Value), w.heap[g]? = some (.cells cur e fr) → ∃ cur', (w.setCells g o vs).heap[g]? = some (.cells cur' e fr) ∧ cur'.size = cur.size ∧ ∀ j, j < o → cur'[j]? = cur[j]?
 | [], w, o, cur, h => ⟨cur, h, rfl, fun _ _ => rfl⟩
 | v :: vs, w, o, cur, h => by
  obtain ⟨c, h1, h2, h3⟩ := heap_setCells_at vs (w.setCell ⟨g, o, none⟩ v) (o + 1) _ (heap_setCell_at h)
  exact ⟨c, h1, by simpa using h2, fun j hj => by rw [h3 j (by omega), Array.getElem?_setIfInBounds_ne (by omega)]⟩
theorem below_setCells {w0 : World} {B g : Nat} (hg : B ≤ g) : ∀ (vs : List Value) (w : World) (o : Nat), Below B w0 w → Below B w0 (w.setCells g o vs)
 | [], w, o, h => h
 | v :: vs, w, o, h => below_setCells hg vs _ _ (below_row_set h hg)
/-- A block whose first cells are the whole numbers of a list. -/
def rowI (w : World) (g cap : Nat) (m : List Int) : Prop :=
 ∃ cur : Array Value, w.heap[g]? = some (.cells cur 3 (0, 0)) ∧ cur.size = cap ∧ m.length ≤ cap ∧ ∀ (i : Nat) (x : Int), m[i]? = some x → cur[i]? = some (Value.int .i64 x)
theorem rowI_below {w w' : World} {g cap : Nat} {m : List Int} (h : rowI w g cap m) (hb : Below w.heap.size w w') : rowI w' g cap m := by
 obtain ⟨cur, h1, h2⟩ := h
 exact ⟨cur, (hb.block g (Array.getElem?_eq_some_iff.1 h1).1).trans h1, h2⟩
theorem rowI_lt {w : World} {g cap : Nat} {m : List Int} (h : rowI w g cap m) : g < w.heap.size := by
 obtain ⟨cur, h1, h2⟩ := h
 exact (Array.getElem?_eq_some_iff.1 h1).1
theorem rowI_at {w : World} {g cap : Nat} {m : List Int} (h : rowI w g cap m) (i : Nat) (x : Int) (hx : m[i]? = some x) : w.cell? ⟨g, i, none⟩ = some (Value.int .i64 x) ∧ w.frozen? ⟨g, i, none⟩ = false := by
 obtain ⟨cur, h1, h2, h3, h4⟩ := h
 have a := h4 i x hx
 refine ⟨?_, by simp [World.frozen?, h1]⟩
 simp only [World.cell?, h1]; simpa using a
theorem rowI_set {w : World} {g cap : Nat} {m : List Int} (h : rowI w g cap m) (i : Nat) (x : Int) (hi : i < m.length) : rowI (w.setCell ⟨g, i, none⟩ (.int .i64 x)) g cap (m.set i x) := by
 obtain ⟨cur, h1, h2, h3, h4⟩ := h
 refine ⟨_, heap_setCell_at h1, by simp [h2], by simpa using h3, fun j y hy => ?_⟩
 by_cases e : j = i
 ·subst e
  rw [List.getElem?_set_self hi] at hy
  cases hy
  rw [Array.getElem?_setIfInBounds_self_of_lt (by omega)]
 ·rw [List.getElem?_set_ne (by omega)] at hy
  rw [Array.getElem?_setIfInBounds_ne (by omega)]
  exact h4 j y hy
/-- Behind a clearing of the cells from place k on the first k numbers are as they were. -/
theorem rowI_clear {w : World} {g cap : Nat} {m : List Int} (h : rowI w g cap m) (k : Nat) (hk : k ≤ m.length) (vs : List Value) : rowI (w.setCells g k vs) g cap (m.take k) := by
 obtain ⟨cur, h1, h2, h3, h4⟩ := h
 obtain ⟨c, k1, k2, k3⟩ := heap_setCells_at vs w k cur h1
 refine ⟨c, k1, by omega, by simp; omega, fun i x hx => ?_⟩
 have hik : i < k := by
  have := (List.getElem?_eq_some_iff.1 hx).1
  simp at this; omega
 rw [List.getElem?_take_of_lt hik] at hx
 rw [k3 _ hik]
 exact h4 i x hx
theorem R_of_rowI {w : World} {base g cap : Nat} {ok : Nat → Prop} {m : List Int} (h : rowI w g cap m) (hg : base ≤ g) (hok : ok g) (hc : cap ≤ maxLen) : Kd.R (Kd.int .i64) 3 w base ok (.slice (some ⟨g, 0, none⟩) m.length cap) m := by
 obtain ⟨cur, h1, h2, h3, h4⟩ := h
 have hl : (cur.toList.take (m.length * 1)).length = m.length * 1 := by simp; omega
 refine ⟨fun k hk => ?_, cur.toList.take (m.length * 1), ⟨hl, .inr ⟨g, cap, cur, rfl, hg, h1, h3, hc, by rw [h2]; exact (Nat.mul_one _).symm, rfl⟩⟩, hl, fun j p hj => ?_⟩
 ·have : g = k := by simpa [Value.ownBlock] using hk
  subst this; exact hok
 ·have a := h4 j p hj
  have hjl := (List.getElem?_eq_some_iff.1 hj).1
  show ((cur.toList.take (m.length * 1)).drop (j * 1)).take 1 = [Value.int .i64 p]
  apply List.ext_getElem?
  intro i
  match i with
  | 0 => rw [List.getElem?_take_of_lt (by omega), List.getElem?_drop, List.getElem?_take_of_lt (by omega), Array.getElem?_toList]; simpa using a
  | i + 1 => rw [List.getElem?_take_eq_none (by omega)]; simp
theorem rowI_of_R {w : World} {base : Nat} {ok : Nat → Prop} {v : Value} {l : List Int} (h : Kd.R (Kd.int .i64) 3 w base ok v l) : (v = .slice none 0 0 ∧ l = []) ∨ ∃ g cap, v = .slice (some ⟨g, 0, none⟩) l.length cap ∧ base ≤ g ∧ ok g ∧ l.length ≤ cap ∧ cap ≤ maxLen ∧ rowI w g cap l := by
 obtain ⟨hok, inner, ⟨hl, hd⟩, hr⟩ := h
 rcases hd with ⟨rfl, hn⟩ | ⟨g, cap, cur, rfl, hg, hb, h1, h2, h3, h4⟩
 ·exact .inl ⟨rfl, List.length_eq_zero_iff.1 hn⟩
 ·refine .inr ⟨g, cap, rfl, hg, hok g (by simp [Value.ownBlock]), h1, h2, cur, hb, h3.trans (Nat.mul_one _), h1, fun i x hx => ?_⟩
  obtain ⟨hi, rfl⟩ := List.getElem?_eq_some_iff.1 hx
  have hM := hr.2 i _ hx
  have hM2 : (inner.drop (i * 1)).take 1 = [Value.int .i64 l[i]] := hM
  have h0 : ((inner.drop (i * 1)).take 1)[0]? = some (Value.int .i64 l[i]) := by rw [hM2]; rfl
  subst h4
  rw [List.getElem?_take_of_lt (by omega), List.getElem?_drop, List.getElem?_take_of_lt (by show _ < l.length * 1; omega), Array.getElem?_toList] at h0
  simpa using h0
def clearI (n : Nat) : List Value := (Builtin.zeroCells #[.int .i64 0] n).toList
theorem clearI_length (n : Nat) : (clearI n).length = n := by simp [clearI, Builtin.zeroCells]
theorem clearI_one (n : Nat) : ∀ v ∈ clearI n, v.oneCell' = true := by
 intro v hv
 simp only [clearI, Builtin.zeroCells, Array.toList_map, List.mem_map] at hv
 obtain ⟨i, _, rfl⟩ := hv
 have e : (#[Value.int .i64 0] : Array Value).size = 1 := rfl
 rw [e, Nat.mod_one]; rfl
theorem rowI_drawn {w w' : World} {g cap : Nat} {m : List Int} (h : rowI w g cap m) (hd : Drawn0 w w') : rowI w' g cap m := rowI_below h hd.below
theorem below_drawn {B : Nat} {w0 w w' : World} (h : Below B w0 w) (hB : B ≤ w.heap.size) (hd : Drawn0 w w') : Below B w0 w' := below_then h hB hd.below

/-! #### equality of tiles -/
theorem tile_ext (a b : S45) : a = b ↔ a.f0 = b.f0 ∧ a.f1 = b.f1 := by cases a; cases b; simp
instance tileDec : DecidableEq S45 := fun a b => decidable_of_iff _ (tile_ext a b).symm
instance tileInh : Inhabited S45 := ⟨z45⟩

theorem tr_T47 {H : Type} {enc : TypeId × Value → H} {w : World} {base : Nat} {spare : Nat → Bool} {held : Bool} : Tr enc Try.prog w base spare held 47 k47 := by
 unfold k47
 refine tr_iso (fun x : S47 => (x.f0, x.f1)) (fun q => ⟨q.1, q.2⟩) (fun _ => rfl) ?_
 have c3 : Try.prog.cellsOf 3 = 1 := by kernel_rfl
 have c47 : Try.prog.cellsOf 47 = 2 := by kernel_rfl
 exact tr_struct2 Try.underlying47 rfl (by rw [c3]) (by rw [c47, c3]) (tr_int Try.underlying3) (tr_int Try.underlying3)
set_option maxRecDepth 100000 in
theorem reads_T47 {H : Type} {enc : TypeId × Value → H} {w : World} {base : Nat} {spare : Nat → Bool} {held : Bool} {v : Value} {dd : DataW H} {p : List MemPlace} {r : Reach} {b0 : Nat} (h : DataW.Trod enc Try.prog w base spare held 47 v dd p) (hv : Value.okWide Try.prog w r b0 47 v) : ∃ x : S47, v = .agg #[.int .i64 x.f0, .int .i64 x.f1] := by
 obtain ⟨x, cs, rfl, hK⟩ := reads_agg (tr_T47 (enc := enc)) Try.underlying47 h hv
 refine ⟨x, ?_⟩
 have := k47_open hK
 congr 1
 exact Array.toList_inj.1 this
theorem sP : (∀ (a : Act) (d : Tmp) (v : Value), a.put (some d) v = { a with tmps := a.tmps.setIfInBounds d v }) ∧ (∀ (a : Act) (v : Value), a.put none v = a) ∧ (∀ (l : List Value) (i : Nat) (x : Value), l.toArray.setIfInBounds i x = (l.set i x).toArray) ∧ (∀ (x y : Value) (l : List Value), (x :: l).set 0 y = y :: l) ∧ (∀ (x y : Value) (l : List Value) (n : Nat), (x :: l).set (n + 1) y = x :: l.set n y) ∧ (∀ n : Int, IntKind.i64.wrap n = Go.RowKit.wrap64 n) ∧ (∀ n : Int, IntKind.i32.wrap n = Go.RowKit.wrap32 n) :=
 ⟨fun _ _ _ => rfl, fun _ _ => rfl, fun _ _ _ => List.setIfInBounds_toArray .., fun _ _ _ => rfl, fun _ _ _ _ => rfl, i64_w, i32_w⟩
theorem aM {p : Prop} (h : p) : Aside0 p := ⟨h⟩
abbrev bN := @pw_below_drewN
abbrev bD := @below_drew1
abbrev bA := @below_alloc
abbrev oD := @of_decide_eq_true
theorem oB {α β : Type} {o : Option α} {f : α → Option β} {b : β} : o.bind f = some b → ∃ a, o = some a ∧ f a = some b := Option.bind_eq_some_iff.mp
abbrev rA := @Kd.R_alloc
abbrev rN := @Kd.R_drewN
abbrev rD := @Kd.R_drew
end Go.Proofs.Ytdklmjpimgeejaa.P
