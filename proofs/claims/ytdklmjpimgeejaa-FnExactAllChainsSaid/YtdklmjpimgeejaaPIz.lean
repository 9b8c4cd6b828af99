-- Printed by a program of this session (wip/myprint.py, which drives the kit's print): what one function of the program does, and the proof that its call does so.
import Derived.Lib.SliceRun
import Derived.WalkSpells
import Derived.Test.YtdklmjpimgeejaaP0
import Derived.Test.YtdklmjpimgeejaaPIy
namespace Go.Proofs.Ytdklmjpimgeejaa.P
open Go.RowKit Go.Proofs.YtdklmjpimgeejaaW.PrintWords Go.Proofs.YtdklmjpimgeejaaW.PrintLast Go.Proofs.YtdklmjpimgeejaaW.PrintMore
attribute [local go_sem] max2_int min2_int max_two min_two max_three min_three max_four min_four   -- for this text's walks alone
set_option linter.unusedVariables false
set_option linter.unusedSimpArgs false

section
/-! ### impl_AllChains_1: function 27: written by hand -/
/-- Rows of rows and the box that holds such a row. -/
def YA (base k : Nat) (o : Option Obj) : Prop := base ≤ k ∧ ∃ cur fr, o = some (.cells cur 34 fr) ∨ o = some (.cells cur 24 fr)
theorem box_cellY {W : World} {g : Nat} {v : Value} {T : TypeId} (h : W.heap[g]? = some (.cells #[v] T (0, 0))) : W.cell? ⟨g, 0, none⟩ = some v ∧ W.frozen? ⟨g, 0, none⟩ = false := by
 refine ⟨?_, by simp [World.frozen?, h]⟩
 simp only [World.cell?, h]; rfl
set_option maxHeartbeats 4000000 in
set_option maxRecDepth 100000 in
theorem impl_AllChains_1.gcalls (chain : List Int) (A : Option Addr) (c : Nat) (out : List (List Int)) (vo : Value) (bH bO : Nat) (AH : Option Addr) (nH cH base B : Nat) (W : World)
  (hH : W.cell? ⟨bH, 0, none⟩ = some (.slice AH nH cH)) (hO : W.heap[bO]? = some (.cells #[vo] 24 (0, 0)))
  (hS : Kd.S (Kd.slice 3 (Kd.int .i64)) 34 W base (fun k => k < B) vo out) (hC : Kd.R (Kd.int .i64) 3 W base (fun k => B ≤ k) (.slice A chain.length c) chain) (hbase : base ≤ W.heap.size)
  (hl1 : chain.length ≤ 1000) (hl2 : out.length ≤ 1000) (hl3 : nH ≤ 1000) (hHO : bH ≠ bO) (hbO : base ≤ bO) :
  Calls Try.prog 27 #[.slice A chain.length c, .pointer (some ⟨bH, 0, none⟩), .pointer (some ⟨bO, 0, none⟩)] W fun e W' => ∃ vo', e = .returned (.bool (decide ((if chain.length = nH + 1 then out ++ [chain] else out).length ≤ 300))) ∧ W'.heap[bO]? = some (.cells #[vo'] 24 (0, 0)) ∧
   Kd.S (Kd.slice 3 (Kd.int .i64)) 34 W' base (fun _ => True) vo' (if chain.length = nH + 1 then out ++ [chain] else out) ∧ ChgY (YA base) W W' := by
 obtain ⟨Ao, co, rfl⟩ := Kd.S_slice hS
 obtain ⟨hc0, hf0⟩ := box_cellY hO
 by_cases hfull : chain.length = nH + 1
 ·have hz : (chain.length : Int) = (nH : Int) + 1 := by omega
  rw [if_pos hfull]
  have HS := aM hS
  have HC := aM hC
  have HO := aM hO
  have HBS := aM hbase
  have HF := aM hfull
  clear hS hC hO hbase hfull
  go_enter Try.func27, Try.ntmps27
  go_wp2_with ((with_reducible refine gate_builtin (b := .append) (xs := #[.tmp 11, .tmp 13]) rfl ?_); at_builtin; refine Kd.S_append (Kd.slice 3 (Kd.int .i64)) (w0 := W) base rfl (.tmp 11) (.tmp 13) 24 34 (.slice none 0 0) 24 rfl Try.underlying24 info34 rfl (by decide) (by omega) (.slice Ao out.length co) out chain [.slice A chain.length c] (fun _ => True) (fun k => B ≤ k) rfl rfl ⟨_, rfl, HC.out⟩ (fun k hk => ⟨trivial, fun e => Nat.not_lt.2 hk ((Kd.S_R HS.out).1 k e.symm)⟩) (fun _ _ => trivial) (Kd.S_mono HS.out fun k hk => ⟨trivial, Nat.not_le.2 hk⟩) (Below.refl _ _) HBS.out (by omega) ?_; intro v1 w1 hs1 hb1 hg1 hat1; obtain ⟨A1, c1, rfl⟩ := Kd.S_slice hs1; have hO1 := (hg1.block bO (lt_heapY HO.out) (fun e => by obtain ⟨cells, hq⟩ := Kd.S_typed HS.out bO e.symm; rw [HO.out] at hq; cases hq)).trans HO.out; obtain ⟨hc1, hf1⟩ := box_cellY hO1; have HS1 := aM hs1; have HO1 := aM hO1; have HG1 := aM hg1; have HB1 := aM hb1; clear hs1 hb1 hg1 hat1 hO1)
  go_ret
  have hS1 := HS1.out
  rw [show (out ++ [chain]).length = out.length + 1 by simp] at hS1
  refine ⟨_, ?_, by rw [heap_setCell_at HO1.out]; simp, Kd.S_set hS1 HO1.out (by decide) 0 _, HB1.out.os, HB1.out.tape, HB1.out.output, by simpa [World.setCell] using HB1.out.size, fun k hk hn => ?_⟩
  ·show Ending.returned (Value.bool (decide ((out.length : Int) + 1 ≤ 300))) = _
   congr 2
   exact decide_eq_decide.2 (by rw [List.length_append, List.length_singleton]; omega)
  ·refine (Below.heap_setCell w1 ⟨bO, 0, none⟩ _ k (fun e => hn ?_)).trans (HG1.out.block k hk (fun e => hn ?_))
   ·have e2 : k = bO := e
    rw [e2, HO.out]; exact ⟨hbO, _, _, .inr rfl⟩
   ·obtain ⟨cells, hq⟩ := Kd.S_typed HS.out k e.symm
    rw [hq]; exact ⟨Kd.S_base HS.out k e.symm, _, _, .inl rfl⟩
 ·have hz : ¬ (chain.length : Int) = (nH : Int) + 1 := by omega
  rw [if_neg hfull]
  have HS := aM hS
  have HO := aM hO
  clear hS hC hO hbase
  go_enter Try.func27, Try.ntmps27
  go_wp2
  go_ret
  exact ⟨_, by go_num, HO.out, Kd.S_mono HS.out fun _ _ => trivial, ChgY.refl _ _⟩

end

section
/-! ### impl_LongestChain_1: function 30: written by hand -/
set_option maxHeartbeats 4000000 in
set_option maxRecDepth 100000 in
theorem impl_LongestChain_1.gcalls (n c : Nat) (A : Option Addr) (nb cb : Nat) (Ab : Option Addr) (bO : Nat) (W : World) (hn : n ≤ 1000000) (hnb : nb ≤ 1000000)
  (hb : W.heap[bO]? = some (.cells #[.slice Ab nb cb] 34 (0, 0))) :
  Calls Try.prog 30 #[.slice A n c, .pointer (some ⟨bO, 0, none⟩)] W fun e W' => e = .returned (.bool true) ∧ W'.heap[bO]? = some (.cells #[if n > nb then .slice A n c else .slice Ab nb cb] 34 (0, 0)) ∧ W.grownBy W' (some bO) := by
 have hc : W.cell? ⟨bO, 0, none⟩ = some (.slice Ab nb cb) ∧ W.frozen? ⟨bO, 0, none⟩ = false := by
  refine ⟨?_, by simp [World.frozen?, hb]⟩
  simp only [World.cell?, hb]; rfl
 obtain ⟨hc0, hf0⟩ := hc
 have HB := aM hb
 clear hb
 by_cases hgt : n > nb
 ·have hz : (n : Int) > (nb : Int) := by omega
  rw [if_pos hgt]
  go_enter Try.func30, Try.ntmps30
  go_wp2
  go_ret
  refine ⟨rfl, by rw [heap_setCell_at HB.out]; simp, ⟨rfl, rfl, rfl, by simp [World.setCell], fun k hk hne => ?_⟩⟩
  exact Below.heap_setCell W ⟨bO, 0, none⟩ _ k (fun e => hne (by rw [e]))
 ·have hz : ¬ (n : Int) > (nb : Int) := by omega
  rw [if_neg hgt]
  go_enter Try.func30, Try.ntmps30
  go_wp2
  go_ret
  exact ⟨rfl, HB.out, ⟨rfl, rfl, rfl, Nat.le_refl _, fun _ _ _ => rfl⟩⟩

end

end Go.Proofs.Ytdklmjpimgeejaa.P
