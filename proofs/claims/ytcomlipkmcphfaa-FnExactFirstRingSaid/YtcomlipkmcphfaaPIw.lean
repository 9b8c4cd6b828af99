-- Printed by a program of this session (wip/myprint.py, which drives the kit's print): what one function of the program does, and the proof that its call does so.
import Derived.ArgAppend
import Derived.Deep.RegionLaw
import Derived.Ground.SlsfProg
import Derived.Lib.SliceRun
import Derived.Shelf.Lay
import Derived.Shelf.SlSortCmp.WholeK
import Derived.Shelf.Small.Bits
import Derived.WalkSpells
import Derived.Test.YtcomlipkmcphfaaP0
import Derived.Test.YtcomlipkmcphfaaPIa
import Derived.Test.YtcomlipkmcphfaaPIb
import Derived.Test.YtcomlipkmcphfaaPId
import Derived.Test.YtcomlipkmcphfaaPIf
namespace Go.Proofs.Ytcomlipkmcphfaa.P
open Go.RowKit Go.Proofs.YtcomlipkmcphfaaW.PrintWords Go.Proofs.YtcomlipkmcphfaaW.PrintLast Go.Proofs.YtcomlipkmcphfaaW.PrintMore
attribute [local go_sem] max2_int min2_int max_two min_two max_three min_three max_four min_four   -- for this text's walks alone
set_option linter.unusedVariables false
set_option linter.unusedSimpArgs false

section
/-! ### slices_Clone_Tile: function 43: written by hand -/
def slices_Clone_Tile.f (l0 : List S41) : Option (List S41) := if l0.length < 8796093022208 then some l0 else none
set_option maxHeartbeats 8000000 in
set_option maxRecDepth 100000 in
theorem slices_Clone_Tile.calls (A0 : Option Addr) (c0 : Nat) (l0 : List S41) (r : List S41) (w : World) (hr0 : Kd.C k41 w A0 l0.length l0) (hc0 : l0.length ≤ c0) (h : slices_Clone_Tile.f l0 = some r) :
  Calls Try.prog 43 #[.slice A0 l0.length c0] w fun e w' => ∃ v0_ : Value, e = .returned (v0_) ∧ Kd.R k41 41 w' w.heap.size (fun _ => True) v0_ r ∧ Below w.heap.size w w' := by
 have hnil : ∀ (w : World) (a : Option Addr) (n c n' c' : Nat), (Go.binOp .eql 27 (.slice a n c) (.slice none n' c')).run Try.prog w = .ok (.bool a.isNone) w := fun w a n c n' c' => Lib.run_eql_slice_nil w _ _ a n c n' c' Try.underlying27
 unfold slices_Clone_Tile.f at h
 by_cases c2 : l0.length < 8796093022208
 ·rw [if_pos c2] at h
  obtain rfl := Option.some.inj h
  clear h
  have LMc2 := aM c2
  clear c2
  cases A0 with
  | none =>
   have h0 : l0.length = 0 := by
    rcases Nat.eq_zero_or_pos l0.length with h | h
    ·exact h
    ·obtain ⟨ad, e, _⟩ := hr0.2.2 h; cases e
   obtain rfl : l0 = [] := List.length_eq_zero_iff.1 h0
   clear hr0 hc0
   go_enter Try.func43, Try.ntmps43
   go_wp2
   go_ret
   exact ⟨_, rfl, Kd.R_nil _ _ _ _ _, Below.refl _ _⟩
  | some ad0 =>
   have HR0 := aM hr0
   have HC0 := aM hc0
   clear hr0 hc0
   have HB := aM (Below.refl w.heap.size w)
   obtain ⟨y5, hy5⟩ : ∃ y_ : List S41, y_ = (([] : List S41)) := ⟨_, rfl⟩
   have Ny5 := aM hy5
   have hy5l : y5.length = 0 := by rw [hy5]; rfl
   obtain ⟨r, hr⟩ : ∃ y_ : List S41, y_ = (y5 ++ l0) := ⟨_, rfl⟩
   have er := aM (show r = l0 by rw [hr, hy5]; rfl)
   have Nr := aM hr
   clear hr hy5
   have HL5 := aM hy5l
   clear hy5l
   go_enter Try.func43, Try.ntmps43
   go_wp2_with (first | ((with_reducible refine gate_dst (N := 5) rfl ?_); refine Kd.R_lit k41 _ 41 ?hg (N := 5) ?hd (xs := ([] : List S41)) (inner := []) (ok := fun _ => True) (okp := fun _ => True) ?hr ?hp (fun _ hk => hk) trivial (Below.refl _ _) (Nat.le_refl _) (by simp) ?_; (case hd => rfl); (case hg => rfl); (case hr => first | (go_simp; done) | (go_simp; rfl)); (case hp => exact (Reps.none _ _)); intro v534 w3 ho4 hb hg_ hnew_; clear hg_ hnew_; (first | rw [← Ny5.out] at ho4 | (simp only [Int.reduceToNat] at ho4; rw [← Ny5.out] at ho4)); have n0_ := aM (Kd.R_lower ho4 (below_size (by repeat (first | (with_reducible first | exact HB.out | apply bA | apply bN | apply bD) | exact HB.out)))); have n1_ := aM (below_step (by repeat (first | (with_reducible first | exact HB.out | apply bA | apply bN | apply bD) | exact HB.out)) hb); clear HB; have HO535 := n0_; have HB := n1_; clear n0_ n1_; clear hb ho4) | ((with_reducible refine gate_builtin (b := .append) (xs := #[.tmp 5, .tmp 6]) rfl ?_); at_builtin; refine Kd.R_append_rows k41 (w0 := w) w.heap.size rfl (.tmp 5) (.tmp 6) 27 41 (.agg #[.int .i64 0, .int .i64 0]) 16 rfl Try.underlying27 info41 rfl (by decide) (by omega) v534 y5 l0 _ _ _ (fun _ => True) (fun _ => False) rfl rfl ?aO ?aR (fun _ _ h => h) (fun _ h => h.elim) ?aF ?aB ?aS ?aL ?_; (case aR => repeat (first | exact (Kd.C_below HR0.out HB.out) | (with_reducible refine Kd.C_alloc ?_ _) | (with_reducible refine Kd.C_drewN ?_ _) | (with_reducible refine Kd.C_drew ?_))); (case aB => exact (by repeat (first | (with_reducible first | exact HB.out | apply bA | apply bN | apply bD) | exact HB.out))); (case aF => exact (fun _ _ => trivial)); (case aO => exact (by (with_reducible repeat (first | apply rA | apply rN | apply rD)); exact HO535.out)); (case aS => exact (below_size (by repeat (first | (with_reducible first | exact HB.out | apply bA | apply bN | apply bD) | exact HB.out)))); (case aL => have := LMc2.out; have := HL5.out; omega); intro v537 w5 ho hb hg hat; rw [← Nr.out] at ho; have n0_ := aM (hb); have n1_ := aM (ho); clear HB; clear HO535; have HB := n0_; have HO538 := n1_; clear n0_ n1_; clear ho hb hg hat))
   go_ret
   rw [← er.out]
   exact ⟨_, by first | rfl | (simp; done) | (simp [*]; done), by (with_reducible repeat (first | apply rA | apply rN | apply rD)); exact HO538.out, by repeat (first | (with_reducible first | exact HB.out | apply bA | apply bN | apply bD) | exact HB.out)⟩
 ·rw [if_neg c2] at h
  exact absurd h (by simp)

end

section
/-! ### slices_Grow_int: function 67: written by hand -/
/-- Told for a nil slice alone: room is made, nothing is in it. -/
def slices_Grow_int.f (a1 : Int) : Option (List Int) := if 0 ≤ a1 then (if a1 < 17592186044416 then some [] else none) else none
set_option maxHeartbeats 8000000 in
set_option maxRecDepth 100000 in
theorem slices_Grow_int.calls (a1 : Int) (r : List Int) (w : World) (h : slices_Grow_int.f a1 = some r) :
  Calls Try.prog 67 #[.slice none 0 0, .int .i64 a1] w fun e w' => ∃ v0_ : Value, e = .returned (v0_) ∧ Kd.R (Kd.int .i64) 3 w' w.heap.size (fun _ => True) v0_ r ∧ Below w.heap.size w w' := by
 unfold slices_Grow_int.f at h
 by_cases h0 : 0 ≤ a1
 ·rw [if_pos h0] at h
  by_cases h1 : a1 < 17592186044416
  ·rw [if_pos h1] at h
   obtain rfl := Option.some.inj h
   clear h
   by_cases hz : a1 > 0
   ·have d0 : decide (a1 < 0) = false := decide_eq_false (by omega)
    have d1 : decide (0 < a1) = true := decide_eq_true hz
    have HB := aM (Below.refl w.heap.size w)
    obtain ⟨i0, hi, hzz⟩ := Option.map_eq_some_iff.1 info3
    simp only [Prod.mk.injEq] at hzz
    have HS := aM hzz.2.1
    have HI := aM hi
    clear hi hzz
    go_enter Try.func67, Try.ntmps67
    go_wp2_with ((with_reducible refine gate_builtin (b := .append) (xs := #[.tmp 20, .tmp 21]) rfl ?_); at_builtin; refine Kd.R_append_zeros (Kd.int .i64) (w0 := w) w.heap.size rfl (.tmp 20) (.tmp 21) 24 3 3 (.int .i64 0) 8 rfl Try.underlying24 (k := .i64) Try.underlying3 info3 rfl (by decide) (by omega) (.slice none 0 0) ([] : List Int) (0 : Int) (kx := .i64) a1 (fun _ => True) rfl rfl rfl (fun _ _ => trivial) (Kd.R_nil _ _ _ _ _) h0 (Below.refl _ _) (Nat.le_refl _) (by simp; omega) ?_; intro v1 w1 ho hb hg hat; clear hg hat; obtain ⟨A', c', rfl, hcl, -⟩ := Kd.R_reads ho; have HT := (print_take_of (P := Try.prog) (Value.int .i64) (0 : Int) 24 3 .i64 Try.underlying24 HI.out HS.out A' c' ([] ++ List.replicate a1.toNat (0 : Int)) 0 (by omega) (by omega) hcl).1; simp only [List.nil_append, List.length_replicate, Int.toNat_zero, List.take_zero, List.length_nil] at HT ho; have HO := aM (Kd.R_take ho (m := 0) (by omega)); have HB' := aM hb; clear ho hb hcl)
    go_ret
    exact ⟨_, rfl, HO.out, HB'.out⟩
   ·obtain rfl : a1 = 0 := by omega
    go_enter Try.func67, Try.ntmps67
    go_wp2
    go_ret
    exact ⟨_, rfl, Kd.R_nil _ _ _ _ _, Below.refl _ _⟩
  ·rw [if_neg h1] at h
   exact absurd h (by simp)
 ·rw [if_neg h0] at h
  exact absurd h (by simp)

end

section
/-! ### slices_Concat_int: function 44 -/
mutual
def slices_Concat_int.l0 : Nat → List (List Int) → Int → List (List Int) → Int → Int → Option (List Int)
 | 0, _, _, _, _, _ => none
 | k + 1, x0, x3, x9, x10, x11 => if x11 < x10 then (if 0 ≤ x11 then (if x11 < (x9.length : Int) then (if (wrap64 (x3 + ((rd_L5 x9 x11).length : Int))) < 0 then (none) else (slices_Concat_int.l0 k x0 (wrap64 (x3 + ((rd_L5 x9 x11).length : Int))) x9 x10 (wrap64 (x11 + 1)))) else (none)) else (none)) else ((slices_Grow_int.f x3).bind fun t252 => (slices_Concat_int.l1 k t252 x0 (x0.length : Int) 0))
def slices_Concat_int.l1 : Nat → List Int → List (List Int) → Int → Int → Option (List Int)
 | 0, _, _, _, _ => none
 | k + 1, x6, x25, x26, x27 => if x27 < x26 then (if 0 ≤ x27 then (if x27 < (x25.length : Int) then (if x6.length + (rd_L5 x25 x27).length < 17592186044416 then (slices_Concat_int.l1 k (x6 ++ (rd_L5 x25 x27)) x25 x26 (wrap64 (x27 + 1))) else (none)) else (none)) else (none)) else (some x6)
end
def slices_Concat_int.f (k : Nat) (l0 : List (List Int)) : Option (List Int) := slices_Concat_int.l0 k l0 0 l0 (l0.length : Int) 0
theorem slices_Concat_int.mono_l : ∀ k, (∀ y0 y1 y2 y3 y4, LeO (slices_Concat_int.l0 k y0 y1 y2 y3 y4) (slices_Concat_int.l0 (k + 1) y0 y1 y2 y3 y4)) ∧ (∀ y0 y1 y2 y3, LeO (slices_Concat_int.l1 k y0 y1 y2 y3) (slices_Concat_int.l1 (k + 1) y0 y1 y2 y3))
 | 0 => ⟨fun _ _ _ _ _ r h => by simp [slices_Concat_int.l0] at h, fun _ _ _ _ r h => by simp [slices_Concat_int.l1] at h⟩
 | k + 1 => by
  obtain ⟨ih0, ih1⟩ := slices_Concat_int.mono_l k
  refine ⟨?_, ?_⟩
  ·intro y0 y1 y2 y3 y4
   unfold slices_Concat_int.l0
   repeat' first
   | (with_reducible exact ih0 _ _ _ _ _)
   | (with_reducible exact ih1 _ _ _ _)
   | (with_reducible exact LeO.refl _)
   | (with_reducible exact LeO.none _)
   | (with_reducible refine LeO.ite ?_ ?_)
   | (with_reducible refine LeO.bind ?_ (fun _ => ?_))
   | exact ih0 _ _ _ _ _
   | exact ih1 _ _ _ _
   | exact LeO.none _
   | refine LeO.ite ?_ ?_
   | refine LeO.bind ?_ (fun _ => ?_)
  ·intro y0 y1 y2 y3
   unfold slices_Concat_int.l1
   repeat' first
   | (with_reducible exact ih0 _ _ _ _ _)
   | (with_reducible exact ih1 _ _ _ _)
   | (with_reducible exact LeO.refl _)
   | (with_reducible exact LeO.none _)
   | (with_reducible refine LeO.ite ?_ ?_)
   | (with_reducible refine LeO.bind ?_ (fun _ => ?_))
   | exact ih0 _ _ _ _ _
   | exact ih1 _ _ _ _
   | exact LeO.none _
   | refine LeO.ite ?_ ?_
   | refine LeO.bind ?_ (fun _ => ?_)
theorem slices_Concat_int.mono : ∀ a0 k, LeO (slices_Concat_int.f k a0) (slices_Concat_int.f (k + 1) a0) := by
 intro a0 k
 obtain ⟨ih0, ih1⟩ := slices_Concat_int.mono_l k
 unfold slices_Concat_int.f
 repeat' first
   | (with_reducible exact ih0 _ _ _ _ _)
   | (with_reducible exact ih1 _ _ _ _)
   | (with_reducible exact LeO.refl _)
   | (with_reducible exact LeO.none _)
   | (with_reducible refine LeO.ite ?_ ?_)
   | (with_reducible refine LeO.bind ?_ (fun _ => ?_))
   | exact ih0 _ _ _ _ _
   | exact ih1 _ _ _ _
   | exact LeO.none _
   | refine LeO.ite ?_ ?_
   | refine LeO.bind ?_ (fun _ => ?_)
set_option maxHeartbeats 8000000 in
set_option maxRecDepth 100000 in
theorem slices_Concat_int.calls (k : Nat) (A0 : Option Addr) (c0 : Nat) (l0 : List (List Int)) (r : List Int) (w : World) (hr0 : Kd.C (Kd.slice 3 (Kd.int .i64)) w A0 l0.length l0) (hc0 : l0.length ≤ c0) (h : slices_Concat_int.f k l0 = some r) :
  Calls Try.prog 44 #[.slice A0 l0.length c0] w fun e w' => ∃ v0_ : Value, e = .returned (v0_) ∧ Kd.R (Kd.int .i64) 3 w' w.heap.size (fun _ => True) v0_ r ∧ Below w.heap.size w w' := by
 have HR0 := aM hr0
 have HC0 := aM hc0
 clear hr0 hc0
 have HB := aM (Below.refl w.heap.size w)
 have H : (slices_Concat_int.l0 k l0 0 l0 (l0.length : Int) 0) = some r := h
 clear h
 have H' := aM H
 clear H
 go_enter Try.func44, Try.ntmps44
 go_wp2
 go_loopg [3, 11] k (fun kq v3 v11 w' => ∃ (x3_1 : Int) (x11_1 : Int), v3 = .int .i64 x3_1 ∧ v11 = .int .i64 x11_1 ∧ Aside0 (slices_Concat_int.l0 kq l0 x3_1 l0 (l0.length : Int) x11_1 = some r) ∧ Aside0 (kq ≤ k) ∧ Aside0 (Below w.heap.size w w'))
 case atStart => exact ⟨(0), (0), (by first | rfl | (simp; done) | (simp [*]; done)), (by first | rfl | (simp; done) | (simp [*]; done)), H', ⟨Nat.le_refl _⟩, ⟨by repeat (first | (with_reducible first | exact HB.out | apply bA | apply bN | apply bD) | exact HB.out)⟩⟩
 case round =>
  clear H'
  obtain ⟨x3_1, x11_1, rfl, rfl, HA, HK1, HB⟩ := hrel
  cases gk with
  | zero => exact absurd HA.out (by simp [slices_Concat_int.l0])
  | succ k1 =>
   have H := HA.out
   clear HA
   simp only [slices_Concat_int.l0] at H
   by_cases c2 : x11_1 < (l0.length : Int)
   ·rw [if_pos c2] at H
    have c2b0 : decide (x11_1 < (l0.length : Int)) = true := decide_eq_true c2
    clear c2
    by_cases c3 : 0 ≤ x11_1
    ·rw [if_pos c3] at H
     have c3b0 : decide (0 ≤ x11_1) = true := decide_eq_true c3
     clear c3
     by_cases c4 : x11_1 < (l0.length : Int)
     ·rw [if_pos c4] at H
      have c4b0 : decide (x11_1 < (l0.length : Int)) = true := decide_eq_true c4
      clear c4
      by_cases c5 : (wrap64 (x3_1 + ((rd_L5 l0 x11_1).length : Int))) < 0
      ·rw [if_pos c5] at H
       exact absurd H (by simp)
      ·rw [if_neg c5] at H
       have c5b0 : decide ((wrap64 (x3_1 + ((rd_L5 l0 x11_1).length : Int))) < 0) = false := decide_eq_false c5
       clear c5
       have H' := aM H
       clear H
       have p251 : 0 ≤ (x11_1 : Int) := oD (by first | (with_reducible assumption) | assumption)
       have q251 : x11_1 < (l0.length : Int) := oD (by first | (with_reducible assumption) | assumption)
       obtain ⟨ad251, A251_0, c251_0, e251, hx251_0, hl251_0, hi251_0⟩ := at_L5 HR0.out x11_1 p251 q251
       cases e251
       replace hx251_0 := (HB.out.cell (World.block_lt_of_cell? w _ hx251_0)).trans hx251_0
       have HR251_0 := aM hi251_0
       have HC251_0 := aM hl251_0
       clear hi251_0 hl251_0
       replace p251 := eq_true p251
       replace q251 := eq_true q251
       go_wp2
       go_roundg k1
       case measure => have := HK1.out; omega
       case rel => exact ⟨(wrap64 (x3_1 + ((rd_L5 l0 x11_1).length : Int))), (wrap64 (x11_1 + 1)), (by first | rfl | (simp; done) | (simp [*]; done)), (by first | rfl | (simp; done) | (simp [*]; done)), H', ⟨by have := HK1.out; omega⟩, ⟨by repeat (first | (with_reducible first | exact HB.out | apply bA | apply bN | apply bD) | exact HB.out)⟩⟩
     ·rw [if_neg c4] at H
      exact absurd H (by simp)
    ·rw [if_neg c3] at H
     exact absurd H (by simp)
   ·rw [if_neg c2] at H
    have c2b0 : decide (x11_1 < (l0.length : Int)) = false := decide_eq_false c2
    clear c2
    replace H := oB H
    obtain ⟨t252, A60, H⟩ := H
    replace H : (slices_Concat_int.l1 k1 t252 l0 (l0.length : Int) 0) = some r := H
    have A6 := aM A60
    clear A60
    have H' := aM H
    clear H
    go_wp2_with (first | ((with_reducible refine gate_callee (f := 67) rfl ?_); refine goesL_ (some 24) rfl rfl Try.func67 (by kernel_rfl) rfl #[.slice none 0 0, .int .i64 x3_1] rfl (by (try simp only [List.map_toArray, List.map_cons, List.map_nil]); first | done | rfl | (simp only [List.length_drop, List.length_take]; rfl)) ?_; (with_reducible refine (slices_Grow_int.calls x3_1 t252 _ A6.out).mono ?_); rintro e w7 ⟨v253, rfl, ho0, hb⟩; refine ⟨_, rfl, ?_⟩; have n0_ := aM (Kd.R_lower ho0 (below_size (by repeat (first | (with_reducible first | exact HB.out | apply bA | apply bN | apply bD) | exact HB.out)))); have n1_ := aM (below_step (by repeat (first | (with_reducible first | exact HB.out | apply bA | apply bN | apply bD) | exact HB.out)) hb); clear HB; have HO254 := n0_; have HB := n1_; clear n0_ n1_; (try clear hb); (try clear hb2); (try clear hk); (try clear hi); (try clear ho0)))
    go_loopg [6, 27] k1 (fun kq v6 v27 w' => ∃ (x6_2 : List Int) (x27_2 : Int), v27 = .int .i64 x27_2 ∧ Aside0 (slices_Concat_int.l1 kq x6_2 l0 (l0.length : Int) x27_2 = some r) ∧ Aside0 (kq ≤ k1) ∧ Aside0 (Kd.R (Kd.int .i64) 3 w' w.heap.size (fun _ => True) v6 x6_2) ∧ Aside0 (Below w.heap.size w w'))
    case atStart => exact ⟨(t252), (0), (by first | rfl | (simp; done) | (simp [*]; done)), H', ⟨Nat.le_refl _⟩, ⟨by (with_reducible repeat (first | apply rA | apply rN | apply rD)); exact HO254.out⟩, ⟨by repeat (first | (with_reducible first | exact HB.out | apply bA | apply bN | apply bD) | exact HB.out)⟩⟩
    case round =>
     clear H'
     try clear c1
     try clear c2
     try clear c2b0
     try clear p2
     try clear q2
     try clear hx2
     try clear c3
     try clear c3b0
     try clear c4
     try clear c4b0
     try clear c5
     try clear c5b0
     try clear p6
     try clear hx251_0
     try clear p251
     try clear q251
     obtain ⟨x6_2, x27_2, rfl, HA, HK2, HO_6, HB⟩ := hrel
     cases gk with
     | zero => exact absurd HA.out (by simp [slices_Concat_int.l1])
     | succ k2 =>
      have H := HA.out
      clear HA
      simp only [slices_Concat_int.l1] at H
      by_cases c8 : x27_2 < (l0.length : Int)
      ·rw [if_pos c8] at H
       have c8b0 : decide (x27_2 < (l0.length : Int)) = true := decide_eq_true c8
       clear c8
       by_cases c9 : 0 ≤ x27_2
       ·rw [if_pos c9] at H
        have c9b0 : decide (0 ≤ x27_2) = true := decide_eq_true c9
        clear c9
        by_cases c10 : x27_2 < (l0.length : Int)
        ·rw [if_pos c10] at H
         have c10b0 : decide (x27_2 < (l0.length : Int)) = true := decide_eq_true c10
         clear c10
         by_cases c11 : x6_2.length + (rd_L5 l0 x27_2).length < 17592186044416
         ·rw [if_pos c11] at H
          have LMc11 := aM c11
          clear c11
          obtain ⟨y256, hy256⟩ : ∃ y_ : List Int, y_ = (x6_2 ++ (rd_L5 l0 x27_2)) := ⟨_, rfl⟩
          replace H : (slices_Concat_int.l1 k2 y256 l0 (l0.length : Int) (wrap64 (x27_2 + 1))) = some r := by first | (rw [hy256]; with_reducible exact H) | (have H2_ := (Option.bind_some _ _).symm.trans H; rw [hy256]; with_reducible exact H2_) | (have H2_ := (Option.bind_some _ _).symm.trans H; with_reducible exact H2_) | with_reducible exact H | (rw [hy256]; exact H) | exact H
          have Ny256 := aM hy256
          clear hy256
          have H' := aM H
          clear H
          have p255 : 0 ≤ (x27_2 : Int) := oD (by first | (with_reducible assumption) | assumption)
          have q255 : x27_2 < (l0.length : Int) := oD (by first | (with_reducible assumption) | assumption)
          obtain ⟨ad255, A255_0, c255_0, e255, hx255_0, hl255_0, hi255_0⟩ := at_L5 HR0.out x27_2 p255 q255
          cases e255
          replace hx255_0 := (HB.out.cell (World.block_lt_of_cell? w _ hx255_0)).trans hx255_0
          have HR255_0 := aM hi255_0
          have HC255_0 := aM hl255_0
          clear hi255_0 hl255_0
          replace p255 := eq_true p255
          replace q255 := eq_true q255
          go_wp2_with (first | ((with_reducible refine gate_builtin (b := .append) (xs := #[.tmp 31, .tmp 32]) rfl ?_); at_builtin; refine Kd.R_append_rows (Kd.int .i64) (w0 := w) w.heap.size rfl (.tmp 31) (.tmp 32) 24 3 (.int .i64 0) 8 rfl Try.underlying24 info3 rfl (by decide) (by omega) u6 x6_2 (rd_L5 l0 x27_2) _ _ _ (fun _ => True) (fun _ => False) rfl rfl ?aO ?aR (fun _ _ h => h) (fun _ h => h.elim) ?aF ?aB ?aS ?aL ?_; (case aR => repeat (first | exact (Kd.C_below HR255_0.out HB.out) | (with_reducible refine Kd.C_alloc ?_ _) | (with_reducible refine Kd.C_drewN ?_ _) | (with_reducible refine Kd.C_drew ?_))); (case aB => exact (by repeat (first | (with_reducible first | exact HB.out | apply bA | apply bN | apply bD) | exact HB.out))); (case aF => exact (fun _ _ => trivial)); (case aO => exact (by (with_reducible repeat (first | apply rA | apply rN | apply rD)); exact HO_6.out)); (case aS => exact (below_size (by repeat (first | (with_reducible first | exact HB.out | apply bA | apply bN | apply bD) | exact HB.out)))); (case aL => have := LMc11.out; omega); intro v257 w12 ho hb hg hat; rw [← Ny256.out] at ho; have n0_ := aM (hb); have n1_ := aM (ho); clear HB; clear HO_6; have HB := n0_; have HO258 := n1_; clear n0_ n1_; clear ho hb hg hat))
          go_roundg k2
          case measure => have := HK1.out; have := HK2.out; omega
          case rel => exact ⟨(y256), (wrap64 (x27_2 + 1)), (by first | rfl | (simp; done) | (simp [*]; done)), H', ⟨by have := HK1.out; have := HK2.out; omega⟩, ⟨by (with_reducible repeat (first | apply rA | apply rN | apply rD)); exact HO258.out⟩, ⟨by repeat (first | (with_reducible first | exact HB.out | apply bA | apply bN | apply bD) | exact HB.out)⟩⟩
         ·rw [if_neg c11] at H
          exact absurd H (by simp)
        ·rw [if_neg c10] at H
         exact absurd H (by simp)
       ·rw [if_neg c9] at H
        exact absurd H (by simp)
      ·rw [if_neg c8] at H
       have c8b0 : decide (x27_2 < (l0.length : Int)) = false := decide_eq_false c8
       clear c8
       obtain rfl := Option.some.inj H
       go_wp2
       go_ret
       exact ⟨_, by first | rfl | (simp [errW_none, errW_some] <;> rfl) | (simp [*, errW_none, errW_some] <;> rfl), by (with_reducible repeat (first | apply rA | apply rN | apply rD)); exact HO_6.out, by repeat (first | (with_reducible first | exact HB.out | apply bA | apply bN | apply bD) | exact HB.out)⟩

end

section
/-! ### impl_compareTiles: function 82 -/
def impl_compareTiles.f (a0_0 : Int) (a0_1 : Int) (a1_0 : Int) (a1_1 : Int) : Option (Int) := if a0_0 = a1_0 then (some (wrap64 (a0_1 - a1_1))) else (some (wrap64 (a0_0 - a1_0)))
set_option maxHeartbeats 8000000 in
set_option maxRecDepth 100000 in
theorem impl_compareTiles.calls (a0_0 : Int) (a0_1 : Int) (a1_0 : Int) (a1_1 : Int) (r : Int) (w : World) (h : impl_compareTiles.f a0_0 a0_1 a1_0 a1_1 = some r) :
  Calls Try.prog 82 #[.agg #[.int .i64 a0_0, .int .i64 a0_1], .agg #[.int .i64 a1_0, .int .i64 a1_1]] w fun e w' => e = .returned (.int .i64 r) ∧ Below w.heap.size w w' := by
 have hu41 := Try.underlying41
 have HB := aM (Below.refl w.heap.size w)
 have H : (if a0_0 = a1_0 then (some (wrap64 (a0_1 - a1_1))) else (some (wrap64 (a0_0 - a1_0)))) = some r := h
 clear h
 by_cases c3 : a0_0 = a1_0
 ·rw [if_pos c3] at H
  have c3b0 : (a0_0 == a1_0) = true := beq_iff_eq.mpr c3
  have c3b1 : (a0_0 != a1_0) = false := bne_eq_false_iff_eq.mpr c3
  clear c3
  obtain rfl := Option.some.inj H
  go_enter Try.func82, Try.ntmps82
  go_wp2_with (first | ((with_reducible refine gate_dst (N := 2) rfl ?_); refine box_event ?hg (N := 2) ?hd (cs := #[.int .i64 a0_0, .int .i64 a0_1]) (t := 41) ?hr ?_; (case hd => rfl); (case hg => rfl); (case hr => first | (go_simp; done) | (go_simp; rfl)); intro gb260 hg w4 hbox hb; have n0_ := aM (below_step (by repeat (first | (with_reducible first | exact HB.out | apply bA | apply bN | apply bD) | exact HB.out)) hb); have n1_ := aM (hbox); have n2_ := aM ((by rw [hg]; exact (below_size (by repeat (first | (with_reducible first | exact HB.out | apply bA | apply bN | apply bD) | exact HB.out))) : w.heap.size ≤ gb260)); have n3_ := aM ((by rw [hg]; exact (below_size (by repeat (first | (with_reducible first | exact HB.out | apply bA | apply bN | apply bD) | exact HB.out))) : w.heap.size ≤ gb260)); clear HB; have HB := n0_; have BK260 := n1_; have GW260 := n2_; have GE260 := n3_; clear n0_ n1_ n2_ n3_; clear hb hbox hg) | ((with_reducible refine gate_dst (N := 3) rfl ?_); refine box_event ?hg (N := 3) ?hd (cs := #[.int .i64 a1_0, .int .i64 a1_1]) (t := 41) ?hr ?_; (case hd => rfl); (case hg => rfl); (case hr => first | (go_simp; done) | (go_simp; rfl)); intro gb261 hg w5 hbox hb; have n0_ := aM (blk_below (g := gb260) (o := .cells #[.int .i64 a0_0, .int .i64 a0_1] 41 (0, 0)) (by (with_reducible repeat (first | refine blk_drewN ?_ _ | refine blk_drew ?_ | refine blk_alloc ?_ _)); exact BK260.out) hb); have n1_ := aM (below_step (by repeat (first | (with_reducible first | exact HB.out | apply bA | apply bN | apply bD | refine below_set ?_ GE260.out) | exact HB.out)) hb); have n2_ := aM (hbox); have n3_ := aM ((by rw [hg]; exact (below_size (by repeat (first | (with_reducible first | exact HB.out | apply bA | apply bN | apply bD | refine below_set ?_ GE260.out) | exact HB.out))) : w.heap.size ≤ gb261)); have n4_ := aM ((by rw [hg]; exact (below_size (by repeat (first | (with_reducible first | exact HB.out | apply bA | apply bN | apply bD | refine below_set ?_ GE260.out) | exact HB.out))) : w.heap.size ≤ gb261)); have n5_ := aM ((by rw [hg]; exact Nat.ne_of_lt (blk_lt (g := gb260) (o := .cells #[.int .i64 a0_0, .int .i64 a0_1] 41 (0, 0)) (by (with_reducible repeat (first | refine blk_drewN ?_ _ | refine blk_drew ?_ | refine blk_alloc ?_ _)); exact BK260.out)) : gb260 ≠ gb261)); have n6_ := aM ((by rw [hg]; exact Nat.ne_of_gt (blk_lt (g := gb260) (o := .cells #[.int .i64 a0_0, .int .i64 a0_1] 41 (0, 0)) (by (with_reducible repeat (first | refine blk_drewN ?_ _ | refine blk_drew ?_ | refine blk_alloc ?_ _)); exact BK260.out)) : gb261 ≠ gb260)); clear BK260; clear HB; have BK260 := n0_; have HB := n1_; have BK261 := n2_; have GW261 := n3_; have GE261 := n4_; have NB260_261 := n5_; have NB261_260 := n6_; clear n0_ n1_ n2_ n3_ n4_ n5_ n6_; clear hb hbox hg; have hnb6 := NB260_261.out; have hnc6 := NB261_260.out; have hcz7_0 : w5.cell? ⟨gb260, 0, none⟩ = some (.int .i64 a0_0) := (blk_cell BK260.out 0).trans rfl; have hcz7_1 : w5.cell? ⟨gb260, 1, none⟩ = some (.int .i64 a0_1) := (blk_cell BK260.out 1).trans rfl; have hfz7_0 := blk_frozen BK260.out 0; have hfz7_1 := blk_frozen BK260.out 1; have hcz8_0 : w5.cell? ⟨gb261, 0, none⟩ = some (.int .i64 a1_0) := (blk_cell BK261.out 0).trans rfl; have hcz8_1 : w5.cell? ⟨gb261, 1, none⟩ = some (.int .i64 a1_1) := (blk_cell BK261.out 1).trans rfl; have hfz8_0 := blk_frozen BK261.out 0; have hfz8_1 := blk_frozen BK261.out 1))
  go_ret
  exact ⟨by first | rfl | (simp [errW_none, errW_some] <;> rfl) | (simp [*, errW_none, errW_some] <;> rfl), by repeat (first | (with_reducible first | exact HB.out | apply bA | apply bN | apply bD | refine below_set ?_ GE260.out | refine below_set ?_ GE261.out) | exact HB.out)⟩
 ·rw [if_neg c3] at H
  have c3b0 : (a0_0 == a1_0) = false := beq_eq_false_iff_ne.mpr c3
  have c3b1 : (a0_0 != a1_0) = true := bne_iff_ne.mpr c3
  obtain rfl := Option.some.inj H
  go_enter Try.func82, Try.ntmps82
  go_wp2_with (first | ((with_reducible refine gate_dst (N := 2) rfl ?_); refine box_event ?hg (N := 2) ?hd (cs := #[.int .i64 a0_0, .int .i64 a0_1]) (t := 41) ?hr ?_; (case hd => rfl); (case hg => rfl); (case hr => first | (go_simp; done) | (go_simp; rfl)); intro gb260 hg w9 hbox hb; have n0_ := aM (below_step (by repeat (first | (with_reducible first | exact HB.out | apply bA | apply bN | apply bD) | exact HB.out)) hb); have n1_ := aM (hbox); have n2_ := aM ((by rw [hg]; exact (below_size (by repeat (first | (with_reducible first | exact HB.out | apply bA | apply bN | apply bD) | exact HB.out))) : w.heap.size ≤ gb260)); have n3_ := aM ((by rw [hg]; exact (below_size (by repeat (first | (with_reducible first | exact HB.out | apply bA | apply bN | apply bD) | exact HB.out))) : w.heap.size ≤ gb260)); clear HB; have HB := n0_; have BK260 := n1_; have GW260 := n2_; have GE260 := n3_; clear n0_ n1_ n2_ n3_; clear hb hbox hg) | ((with_reducible refine gate_dst (N := 3) rfl ?_); refine box_event ?hg (N := 3) ?hd (cs := #[.int .i64 a1_0, .int .i64 a1_1]) (t := 41) ?hr ?_; (case hd => rfl); (case hg => rfl); (case hr => first | (go_simp; done) | (go_simp; rfl)); intro gb261 hg w10 hbox hb; have n0_ := aM (blk_below (g := gb260) (o := .cells #[.int .i64 a0_0, .int .i64 a0_1] 41 (0, 0)) (by (with_reducible repeat (first | refine blk_drewN ?_ _ | refine blk_drew ?_ | refine blk_alloc ?_ _)); exact BK260.out) hb); have n1_ := aM (below_step (by repeat (first | (with_reducible first | exact HB.out | apply bA | apply bN | apply bD | refine below_set ?_ GE260.out) | exact HB.out)) hb); have n2_ := aM (hbox); have n3_ := aM ((by rw [hg]; exact (below_size (by repeat (first | (with_reducible first | exact HB.out | apply bA | apply bN | apply bD | refine below_set ?_ GE260.out) | exact HB.out))) : w.heap.size ≤ gb261)); have n4_ := aM ((by rw [hg]; exact (below_size (by repeat (first | (with_reducible first | exact HB.out | apply bA | apply bN | apply bD | refine below_set ?_ GE260.out) | exact HB.out))) : w.heap.size ≤ gb261)); have n5_ := aM ((by rw [hg]; exact Nat.ne_of_lt (blk_lt (g := gb260) (o := .cells #[.int .i64 a0_0, .int .i64 a0_1] 41 (0, 0)) (by (with_reducible repeat (first | refine blk_drewN ?_ _ | refine blk_drew ?_ | refine blk_alloc ?_ _)); exact BK260.out)) : gb260 ≠ gb261)); have n6_ := aM ((by rw [hg]; exact Nat.ne_of_gt (blk_lt (g := gb260) (o := .cells #[.int .i64 a0_0, .int .i64 a0_1] 41 (0, 0)) (by (with_reducible repeat (first | refine blk_drewN ?_ _ | refine blk_drew ?_ | refine blk_alloc ?_ _)); exact BK260.out)) : gb261 ≠ gb260)); clear BK260; clear HB; have BK260 := n0_; have HB := n1_; have BK261 := n2_; have GW261 := n3_; have GE261 := n4_; have NB260_261 := n5_; have NB261_260 := n6_; clear n0_ n1_ n2_ n3_ n4_ n5_ n6_; clear hb hbox hg; have hnb11 := NB260_261.out; have hnc11 := NB261_260.out; have hcz12_0 : w10.cell? ⟨gb260, 0, none⟩ = some (.int .i64 a0_0) := (blk_cell BK260.out 0).trans rfl; have hcz12_1 : w10.cell? ⟨gb260, 1, none⟩ = some (.int .i64 a0_1) := (blk_cell BK260.out 1).trans rfl; have hfz12_0 := blk_frozen BK260.out 0; have hfz12_1 := blk_frozen BK260.out 1; have hcz13_0 : w10.cell? ⟨gb261, 0, none⟩ = some (.int .i64 a1_0) := (blk_cell BK261.out 0).trans rfl; have hcz13_1 : w10.cell? ⟨gb261, 1, none⟩ = some (.int .i64 a1_1) := (blk_cell BK261.out 1).trans rfl; have hfz13_0 := blk_frozen BK261.out 0; have hfz13_1 := blk_frozen BK261.out 1))
  go_ret
  exact ⟨by first | rfl | (simp [errW_none, errW_some] <;> rfl) | (simp [*, errW_none, errW_some] <;> rfl), by repeat (first | (with_reducible first | exact HB.out | apply bA | apply bN | apply bD | refine below_set ?_ GE260.out | refine below_set ?_ GE261.out) | exact HB.out)⟩

end

section
/-! ### slices_SortFunc_Tile: function 81: written by hand -/
open Go.Shelf in
shelf_lay_g SlLaysF0.n6 Slsf 6 at Try 81 as Try.sortLays
/-- A tile whose numbers are small: their differences are true ones. -/
def inT (x : S41) : Prop := 0 ≤ x.f0 ∧ x.f0 ≤ 9 ∧ 0 ≤ x.f1 ∧ x.f1 ≤ 9
instance (x : S41) : Decidable (inT x) := by unfold inT; infer_instance
abbrev ST := { x : S41 // inT x }
instance : Inhabited ST := ⟨⟨⟨0, 0⟩, ⟨by decide, by decide, by decide, by decide⟩⟩⟩
def encST (x : ST) : List Value := [.int .i64 x.1.f0, .int .i64 x.1.f1]
def cmpST (x y : ST) : Int := if x.1.f0 = y.1.f0 then x.1.f1 - y.1.f1 else x.1.f0 - y.1.f0
def leT (x y : S41) : Bool := decide (x.f0 < y.f0) || (decide (x.f0 = y.f0) && decide (x.f1 ≤ y.f1))
theorem leT_iff (x y : S41) : leT x y = true ↔ x.f0 < y.f0 ∨ (x.f0 = y.f0 ∧ x.f1 ≤ y.f1) := by simp [leT]
theorem ltST_iff (x y : ST) : Go.Proofs.ltOf cmpST x y = true ↔ x.1.f0 < y.1.f0 ∨ (x.1.f0 = y.1.f0 ∧ x.1.f1 < y.1.f1) := by
 unfold Go.Proofs.ltOf cmpST
 rw [decide_eq_true_iff]
 split <;> omega
theorem ltST_false (x y : ST) : Go.Proofs.ltOf cmpST x y = false ↔ leT y.1 x.1 = true := by
 rw [← Bool.not_eq_true, ltST_iff, leT_iff]; omega
theorem swoST : Go.Sort.SWO (Go.Proofs.ltOf cmpST) where
 irrefl x := by rw [ltST_false, leT_iff]; omega
 trans x y z h1 h2 := by rw [ltST_iff] at *; omega
 ntrans x y z h1 h2 := by rw [ltST_false, leT_iff] at *; omega
theorem leT_trans (a b c : S41) (h1 : leT a b = true) (h2 : leT b c = true) : leT a c = true := by rw [leT_iff] at *; omega
theorem leT_total (a b : S41) : (leT a b || leT b a) = true := by rw [Bool.or_eq_true, leT_iff, leT_iff]; omega
theorem leT_anti (a b : S41) (h1 : leT a b = true) (h2 : leT b a = true) : a = b := by
 obtain ⟨a0, a1⟩ := a
 obtain ⟨b0, b1⟩ := b
 rw [leT_iff] at h1 h2
 dsimp only at h1 h2
 simp only [S41.mk.injEq]
 omega
def stL (l : List S41) (h : ∀ x ∈ l, inT x) : List ST := l.attachWith inT h
theorem stL_val (l : List S41) (h : ∀ x ∈ l, inT x) : (stL l h).map Subtype.val = l := by simp [stL]
theorem stL_length (l : List S41) (h : ∀ x ∈ l, inT x) : (stL l h).length = l.length := by simp [stL]
/-- What the sort's contract says is the one sorted list. -/
theorem sorted_one (l : List S41) (h : ∀ x ∈ l, inT x) (d' : Array ST) (hp : Go.Sort.PermIn 0 (stL l h).toArray.size (stL l h).toArray d') (hs : Go.Sort.SortedIn (Go.Proofs.ltOf cmpST) 0 (stL l h).toArray.size d') : d'.toList.map Subtype.val = l.mergeSort leT := by
 obtain ⟨h1, _, h2⟩ := hp
 have e1 : d'.extract 0 (stL l h).toArray.size = d' := by rw [← h1]; simp
 rw [e1] at h2
 have hperm : (d'.toList.map Subtype.val).Perm l := by
  have e2 : ((stL l h).toArray.extract 0 (stL l h).toArray.size).toList = stL l h := by simp
  rw [e2] at h2
  have := h2.map Subtype.val
  rw [stL_val] at this
  exact this
 have hpw : (d'.toList.map Subtype.val).Pairwise (fun a b => leT a b = true) := by
  rw [List.pairwise_iff_getElem]
  intro i j hi hj hij
  simp only [List.length_map, Array.length_toList] at hi hj
  have := hs i j (Nat.zero_le _) hij (by omega)
  rw [getElem!_pos d' i (by omega), getElem!_pos d' j (by omega), ltST_false] at this
  simpa using this
 refine List.Perm.eq_of_pairwise (le := fun a b => leT a b = true) (fun a b _ _ => leT_anti a b) hpw (List.pairwise_mergeSort leT_trans leT_total l) (hperm.trans (List.mergeSort_perm l leT).symm)
theorem heap_sortedK {w : World} {g n : Nat} {os : Array Obj} {cur : Array Value} {e : TypeId} {fr : Nat × Nat} (d : Array ST) (hb : w.heap[g]? = some (.cells cur e fr)) :
  (Go.Proofs.sortWorldK encST 2 w g 0 n d os).heap[g]? = some (.cells (Go.Sort.putCells id 0 (Go.Sort.flatK encST 2 d) cur) e fr) := by
 have hg : g < w.heap.size := (Array.getElem?_eq_some_iff.1 hb).1
 unfold Go.Proofs.sortWorldK Go.Sort.putRowK
 rw [Go.Sort.heap_grow_old _ _ (by simpa using hg)]
 simp [Go.Sort.putRow, Go.Sort.mapBlock, Go.Sort.ahead, Array.getElem?_modify, hb, Go.Sort.onCells]
theorem grownBy_sortedK {w : World} {g n : Nat} {os : Array Obj} (d : Array ST) : w.grownBy (Go.Proofs.sortWorldK encST 2 w g 0 n d os) (some g) := by
 unfold Go.Proofs.sortWorldK Go.Sort.putRowK
 refine ⟨rfl, rfl, rfl, by simp, fun k hk hne => ?_⟩
 rw [Go.Sort.heap_grow_old _ _ (by simpa using hk)]
 have : g ≠ k := fun e => hne (by rw [e])
 simp [Go.Sort.putRow, Go.Sort.mapBlock, Go.Sort.ahead, Array.getElem?_modify, this]
theorem flatST_get (d : Array ST) (i : Nat) (hi : i < d.size) : (Go.Sort.flatK encST 2 d)[i * 2]? = some (.int .i64 d[i].1.f0) ∧ (Go.Sort.flatK encST 2 d)[i * 2 + 1]? = some (.int .i64 d[i].1.f1) := by
 have h1 : i * 2 < (Go.Sort.flatK encST 2 d).size := by simp; omega
 have h2 : i * 2 + 1 < (Go.Sort.flatK encST 2 d).size := by simp; omega
 have g1 := Go.Sort.get_flatK encST 2 d (i * 2) (by omega)
 have g2 := Go.Sort.get_flatK encST 2 d (i * 2 + 1) (by omega)
 rw [getElem!_pos (Go.Sort.flatK encST 2 d) (i * 2) h1, show i * 2 / 2 = i by omega, show i * 2 % 2 = 0 by omega, getElem!_pos d i hi] at g1
 rw [getElem!_pos (Go.Sort.flatK encST 2 d) (i * 2 + 1) h2, show (i * 2 + 1) / 2 = i by omega, show (i * 2 + 1) % 2 = 1 by omega, getElem!_pos d i hi] at g2
 exact ⟨by rw [Array.getElem?_eq_getElem h1, g1]; rfl, by rw [Array.getElem?_eq_getElem h2, g2]; rfl⟩
theorem reps_two {R : S41 → List Value → Prop} {l : List S41} {inner : List Value} (hR : ∀ x c, R x c → c = [.int .i64 x.f0, .int .i64 x.f1]) (hr : Reps R 2 l inner) (i : Nat) (hi : i < l.length) : inner[i * 2]? = some (.int .i64 l[i].f0) ∧ inner[i * 2 + 1]? = some (.int .i64 l[i].f1) := by
 have h := hR _ _ (hr.2 i l[i] (List.getElem?_eq_getElem hi))
 have h0 := congrArg (fun c => c[0]?) h
 have h1 := congrArg (fun c => c[1]?) h
 simp only [List.getElem?_take, List.getElem?_drop] at h0 h1
 exact ⟨by simpa using h0, by simpa using h1⟩
theorem holds_of_own {w : World} {g : Nat} {l : List S41} (h : ∀ x ∈ l, inT x) {e : TypeId} {cur : Array Value} {inner : List Value} {R : S41 → List Value → Prop} (hR : ∀ x c, R x c → c = [.int .i64 x.f0, .int .i64 x.f1]) (hb : w.heap[g]? = some (.cells cur e (0, 0))) (ht : cur.toList.take (l.length * 2) = inner) (hr : Reps R 2 l inner) : Go.Sort.HoldsK encST 2 w g 0 (stL l h).toArray := by
 intro j hj
 have hj' : j < l.length * 2 := by simpa [stL_length] using hj
 refine ⟨?_, by simp [World.frozen?, hb]⟩
 simp only [World.cell?, hb, Nat.zero_add]
 simp only [Option.isSome_none, Bool.false_eq_true, if_false]
 have h1 : cur[j]? = inner[j]? := by rw [← ht, List.getElem?_take_of_lt hj', Array.getElem?_toList]
 rw [h1]
 have hi : j / 2 < l.length := by omega
 have r2 := reps_two hR hr (j / 2) hi
 have hs : j / 2 < (stL l h).toArray.size := by simpa [stL_length] using hi
 have f2 := flatST_get (stL l h).toArray (j / 2) hs
 have hv : (stL l h).toArray[j / 2].1 = l[j / 2] := by
  have := stL_val l h
  have e1 : ((stL l h).map Subtype.val)[j / 2]? = some l[j / 2] := by rw [this]; exact List.getElem?_eq_getElem hi
  simpa [stL_length, hi] using e1
 rw [hv] at f2
 rcases Nat.mod_two_eq_zero_or_one j with hm | hm
 ·have e : j / 2 * 2 = j := by omega
  rw [e] at r2 f2
  rw [r2.1]
  show _ = some (Go.Sort.flatK encST 2 (stL l h).toArray)[j]!
  rw [getElem!_pos _ j (by simpa [stL_length] using hj'), ← Array.getElem?_eq_getElem, f2.1]
 ·have e : j / 2 * 2 + 1 = j := by omega
  rw [e] at r2 f2
  rw [r2.2]
  show _ = some (Go.Sort.flatK encST 2 (stL l h).toArray)[j]!
  rw [getElem!_pos _ j (by simpa [stL_length] using hj'), ← Array.getElem?_eq_getElem, f2.2]
theorem take_putCellsK (cur F : Array Value) (h : F.size ≤ cur.size) : (Go.Sort.putCells id 0 F cur).toList.take F.size = F.toList := by
 apply List.ext_getElem?
 intro j
 by_cases hj : j < F.size
 ·rw [List.getElem?_take_of_lt hj, Array.getElem?_toList]
  simp [Go.Sort.putCells, hj, show j < cur.size by omega]
 ·rw [List.getElem?_take_eq_none (by omega), List.getElem?_eq_none (by simp; omega)]
/-- Behind the sort the same slice owns the sorted tiles. -/
theorem own_sortedK {w : World} {base g cap n : Nat} {ok : Nat → Prop} {os : Array Obj} {cur : Array Value} {l : List S41} (d : Array ST) (hd : d.size = l.length) (hok : ok g) (hbase : base ≤ g) (hb : w.heap[g]? = some (.cells cur 41 (0, 0)))
  (h1 : l.length ≤ cap) (h2 : cap ≤ maxLen) (h3 : cur.size = cap * 2) : Kd.R k41 41 (Go.Proofs.sortWorldK encST 2 w g 0 n d os) base ok (.slice (some ⟨g, 0, none⟩) l.length cap) (d.toList.map Subtype.val) := by
 have hs : (Go.Sort.flatK encST 2 d).size = l.length * 2 := by rw [Go.Sort.size_flatK, hd]
 have hl : (d.toList.map Subtype.val).length = l.length := by simp [hd]
 refine ⟨fun k hk => ?_, (Go.Sort.flatK encST 2 d).toList, ?_, ?_, ?_⟩
 ·have : g = k := by simpa [Value.ownBlock] using hk
  subst this; exact hok
 ·rw [hl]
  refine ⟨by show _ = l.length * 2; simp [hd], .inr ⟨g, cap, _, rfl, hbase, heap_sortedK d hb, h1, h2, by show _ = cap * 2; simp [Go.Sort.putCells, h3], ?_⟩⟩
  show _ = _
  have := take_putCellsK cur (Go.Sort.flatK encST 2 d) (by rw [hs, h3]; exact Nat.mul_le_mul_right _ h1)
  rw [hs] at this
  exact this
 ·show _ = _ * 2
  simp [hd]
 ·intro j p hj
  have hjl : j < d.size := by
   have := (List.getElem?_eq_some_iff.1 hj).1
   simpa using this
  have hp : d[j].1 = p := by
   have := hj
   rw [List.getElem?_map, Array.getElem?_toList, Array.getElem?_eq_getElem hjl] at this
   simpa using this
  obtain ⟨f1, f2⟩ := flatST_get d j hjl
  have : ((Go.Sort.flatK encST 2 d).toList.drop (j * 2)).take 2 = [.int .i64 p.f0, .int .i64 p.f1] := by
   rw [← hp]
   apply List.ext_getElem?
   intro i
   match i with
   | 0 => simpa [List.getElem?_take, List.getElem?_drop] using f1
   | 1 => simpa [List.getElem?_take, List.getElem?_drop] using f2
   | i + 2 => rw [List.getElem?_take_eq_none (by omega)]; simp
  show k41.M _ _ _ _ (((Go.Sort.flatK encST 2 d).toList.drop (j * 2)).take 2)
  rw [this]
  exact k41_mkM _ _ _ p
set_option maxHeartbeats 4000000 in
theorem cmp_closure (x y : ST) (W : World) : Calls Try.prog 82 #[.agg (encST x).toArray, .agg (encST y).toArray] W fun e w' => e = .returned (.int .i64 (cmpST x y)) ∧ ∃ q os', w' = Go.Sort.grow (W.drewN q) os' := by
 obtain ⟨⟨x0, x1⟩, hx⟩ := x
 obtain ⟨⟨y0, y1⟩, hy⟩ := y
 obtain ⟨a1, a2, a3, a4⟩ : 0 ≤ x0 ∧ x0 ≤ 9 ∧ 0 ≤ x1 ∧ x1 ≤ 9 := hx
 obtain ⟨b1, b2, b3, b4⟩ : 0 ≤ y0 ∧ y0 ≤ 9 ∧ 0 ≤ y1 ∧ y1 ≤ 9 := hy
 have w0 : wrap64 (x0 - y0) = x0 - y0 := by unfold wrap64; omega
 have w1 : wrap64 (x1 - y1) = x1 - y1 := by unfold wrap64; omega
 show Calls Try.prog 82 #[.agg #[.int .i64 x0, .int .i64 x1], .agg #[.int .i64 y0, .int .i64 y1]] W fun e w' => e = .returned (.int .i64 (if x0 = y0 then x1 - y1 else x0 - y0)) ∧ ∃ q os', w' = Go.Sort.grow (W.drewN q) os'
 by_cases h : x0 = y0
 ·have hz : (x0 == y0) = true := beq_iff_eq.mpr h
  have hz2 : (x0 != y0) = false := bne_eq_false_iff_eq.mpr h
  rw [if_pos h]
  clear h
  go_enter Try.func82, Try.ntmps82
  go_wp2
  go_ret
  exact ⟨by rw [← w1]; rfl, 0, _, by rw [Go.Sort.alloc_eq_grow, Go.Sort.alloc_eq_grow, Go.Sort.grow_grow]; rfl⟩
 ·have hz : (x0 == y0) = false := beq_eq_false_iff_ne.mpr h
  have hz2 : (x0 != y0) = true := bne_iff_ne.mpr h
  rw [if_neg h]
  clear h
  go_enter Try.func82, Try.ntmps82
  go_wp2
  go_ret
  exact ⟨by rw [← w0]; rfl, 0, _, by rw [Go.Sort.alloc_eq_grow, Go.Sort.alloc_eq_grow, Go.Sort.grow_grow]; rfl⟩
section
open Go.Proofs Go.Shelf Go.Lib
variable {P : Program} {ρ : Ren}
set_option maxHeartbeats 4000000 in
set_option maxRecDepth 1000000 in
theorem nil_ins (L : SlLaysF0.n20 P ρ) (g : Nat) (cb : Array Value) (w : World) : Calls P (ρ.f 20) #[.slice none 0 0, .int .i64 0, .int .i64 0, .func (.func g) #[] cb] w fun e w' => e = .returned (.tuple #[]) ∧ w' = w := by
 have mixed := L.mixed; have t0 := L.t0; have a0 := L.a0; have z0 := L.z0; have v0 := L.v0; have t3 := L.t3; have a3 := L.a3; have z3 := L.z3; have v3 := L.v3; have t4 := L.t4; have a4 := L.a4; have z4 := L.z4; have v4 := L.v4; have t22 := L.t22; have a22 := L.a22; have z22 := L.z22; have v22 := L.v22; have t25 := L.t25; have a25 := L.a25; have z25 := L.z25; have v25 := L.v25
 have u22 := run_underlying L.t22
 obtain ⟨nm20, _, F20⟩ := L.f20
 go_enter F20, SlBodyF.n20_ntmps ρ
 go_wp2
 go_loopg [8] 0 (fun g1 vi wr => vi = .int .i64 1 ∧ wr = w)
 case atStart => exact ⟨rfl, rfl⟩
 case round =>
  obtain ⟨rfl, rfl⟩ := hrel
  go_wp2
  go_end0
  exact ⟨rfl, rfl⟩
set_option maxHeartbeats 4000000 in
set_option maxRecDepth 1000000 in
theorem nil_pdq (L : SlLaysF0.n14 P ρ) (g : Nat) (cb : Array Value) (lim : Int) (w : World) : Calls P (ρ.f 14) #[.slice none 0 0, .int .i64 0, .int .i64 0, .int .i64 lim, .func (.func g) #[] cb] w fun e w' => e = .returned (.tuple #[]) ∧ w' = w := by
 have mixed := L.mixed; have t0 := L.t0; have a0 := L.a0; have z0 := L.z0; have v0 := L.v0; have t3 := L.t3; have a3 := L.a3; have z3 := L.z3; have v3 := L.v3; have t4 := L.t4; have a4 := L.a4; have z4 := L.z4; have v4 := L.v4; have t5 := L.t5; have a5 := L.a5; have z5 := L.z5; have v5 := L.v5; have t9 := L.t9; have a9 := L.a9; have z9 := L.z9; have v9 := L.v9; have t22 := L.t22; have a22 := L.a22; have z22 := L.z22; have v22 := L.v22; have t25 := L.t25; have a25 := L.a25; have z25 := L.z25; have v25 := L.v25; have t39 := L.t39; have a39 := L.a39; have z39 := L.z39; have v39 := L.v39; have t45 := L.t45; have a45 := L.a45; have z45 := L.z45; have v45 := L.v45; have t46 := L.t46; have a46 := L.a46; have z46 := L.z46; have v46 := L.v46; have t50 := L.t50; have a50 := L.a50; have z50 := L.z50; have v50 := L.v50; have t53 := L.t53; have a53 := L.a53; have z53 := L.z53; have v53 := L.v53; have t55 := L.t55; have a55 := L.a55; have z55 := L.z55; have v55 := L.v55; have t66 := L.t66; have a66 := L.a66; have z66 := L.z66; have v66 := L.v66; have t70 := L.t70; have a70 := L.a70; have z70 := L.z70; have v70 := L.v70; have t76 := L.t76; have a76 := L.a76; have z76 := L.z76; have v76 := L.v76; have t77 := L.t77; have a77 := L.a77; have z77 := L.z77; have v77 := L.v77
 have e20 : ∀ args w, (callFunc (ρ.f 20) args).run P w = .ok (.enter (ρ.f 20) args) w := L.f20.enters rfl
 have hi := nil_ins (P := P) (ρ := ρ) { L with } g cb w
 obtain ⟨_, _, FG⟩ := L.f14
 go_enter FG, SlBodyF.n14_ntmps ρ
 go_wp2
 refine wp_loop_rounds 1 ?_
 rw [rounds_succ]
 go_wp2_with (go_at_fn (ρ.f 20); refine hi.mono ?_; rintro e w' ⟨rfl, rfl⟩)
 (try simp only [Exit.inBlock, Exit.then]); refine bodyPost_ret (results_none rfl _ _ _) rfl ?_
 exact ⟨rfl, rfl⟩
set_option maxHeartbeats 4000000 in
set_option maxRecDepth 1000000 in
theorem nil_sort (L : SlLaysF0.n6 P ρ) (g : Nat) (cb : Array Value) (w : World) : Calls P (ρ.f 6) #[.slice none 0 0, .func (.func g) #[] cb] w fun e w' => e = .returned (.tuple #[]) ∧ w' = w := by
 have mixed := L.mixed; have t0 := L.t0; have a0 := L.a0; have z0 := L.z0; have v0 := L.v0; have t3 := L.t3; have a3 := L.a3; have z3 := L.z3; have v3 := L.v3; have t4 := L.t4; have a4 := L.a4; have z4 := L.z4; have v4 := L.v4; have t5 := L.t5; have a5 := L.a5; have z5 := L.z5; have v5 := L.v5; have t9 := L.t9; have a9 := L.a9; have z9 := L.z9; have v9 := L.v9; have t22 := L.t22; have a22 := L.a22; have z22 := L.z22; have v22 := L.v22; have t25 := L.t25; have a25 := L.a25; have z25 := L.z25; have v25 := L.v25; have t39 := L.t39; have a39 := L.a39; have z39 := L.z39; have v39 := L.v39; have t45 := L.t45; have a45 := L.a45; have z45 := L.z45; have v45 := L.v45; have t46 := L.t46; have a46 := L.a46; have z46 := L.z46; have v46 := L.v46; have t50 := L.t50; have a50 := L.a50; have z50 := L.z50; have v50 := L.v50; have t53 := L.t53; have a53 := L.a53; have z53 := L.z53; have v53 := L.v53; have t55 := L.t55; have a55 := L.a55; have z55 := L.z55; have v55 := L.v55; have t66 := L.t66; have a66 := L.a66; have z66 := L.z66; have v66 := L.v66; have t70 := L.t70; have a70 := L.a70; have z70 := L.z70; have v70 := L.v70; have t76 := L.t76; have a76 := L.a76; have z76 := L.z76; have v76 := L.v76; have t77 := L.t77; have a77 := L.a77; have z77 := L.z77; have v77 := L.v77
 have e14 : ∀ args w, (callFunc (ρ.f 14) args).run P w = .ok (.enter (ρ.f 14) args) w := L.f14.enters rfl
 have e15 : ∀ args w, (callFunc (ρ.f 15) args).run P w = .ok (.enter (ρ.f 15) args) w := enters_of L.f15 (by kernel_rfl) rfl
 have hp := fun lim => nil_pdq (P := P) (ρ := ρ) { L with } g cb lim w
 have hl : Calls P (ρ.f 15) #[.int .u64 0] w fun e w' => e = .returned (.int .i64 (Lib.bitLen 0 : Nat)) ∧ w' = w := by
  have h := Any.bits_Len (SlLaysF0.n15.bits (P := P) (ρ := ρ) { L with }) (0 : Int) w (by omega) (by omega)
  exact h
 obtain ⟨_, _, FG⟩ := L.f6
 go_enter FG, SlBodyF.n6_ntmps ρ
 go_wp2_with (first | (go_at_fn (ρ.f 15); refine hl.mono ?_; rintro e w' ⟨rfl, rfl⟩) | (go_at_fn (ρ.f 14); refine (hp _).mono ?_; rintro e w' ⟨rfl, rfl⟩))
 go_end0
 exact ⟨rfl, rfl⟩
end
set_option maxHeartbeats 4000000 in
theorem slices_SortFunc_Tile.gcalls (base : Nat) (ok : Nat → Prop) (v : Value) (l : List S41) (w : World) (hbase : base ≤ w.heap.size) (ho : Kd.R k41 41 w base ok v l) (h : ∀ x ∈ l, inT x) (hlen : l.length < 4611686018427387904) :
  Calls Try.prog 81 #[v, .func (.func 82) #[] #[]] w fun e w' => e = .returned (.tuple #[]) ∧ Kd.R k41 41 w' base ok v (l.mergeSort leT) ∧ Below base w w' := by
 obtain ⟨hok, inner, ⟨hl, hd⟩, hr⟩ := ho
 rcases hd with ⟨rfl, hn⟩ | ⟨g, cap, cur, rfl, hg, hb, h1, h2, h3, h4⟩
 ·obtain rfl : l = [] := List.length_eq_zero_iff.1 hn
  refine (nil_sort Try.sortLays 82 #[] w).mono ?_
  rintro e w' ⟨rfl, rfl⟩
  exact ⟨rfl, by rw [List.mergeSort_nil]; exact Kd.R_nil _ _ _ _ _, Below.refl _ _⟩
 have eg : ∀ args w, (callFunc 82 args).run Try.prog w = .ok (.enter 82 args) w := enters_of Try.func82 (by kernel_rfl) rfl
 have hgl : g < w.heap.size := (Array.getElem?_eq_some_iff.1 hb).1
 have hsz : (stL l h).toArray.size = l.length := by simp [stL_length]
 have hcon := Go.Proofs.AnyQ.slices_SortFunc Try.sortLays 2 Try.isAgg41 Try.sizeOf41 encST (fun _ => rfl) (fun x v hv => by simp [encST] at hv; rcases hv with rfl | rfl <;> rfl) cmpST swoST 82 #[] g 0 cap (stL l h).toArray w eg (fun _ _ _ _ x y => cmp_closure x y _) (holds_of_own h (fun x c hc => k41_openM hc) hb h4 hr) hgl (by omega)
 change Calls Try.prog 81 _ _ _ at hcon
 rw [hsz] at hcon
 refine hcon.mono ?_
 rintro e w' ⟨he, d', n, os, hp, hs, rfl⟩
 rw [← hsz] at hp hs
 have hone := sorted_one l h d' hp hs
 have hd : d'.size = l.length := by rw [hp.1, hsz]
 refine ⟨he, ?_, Below.grown (Below.refl _ _) (grownBy_sortedK d') hbase (fun k hk => by cases hk; exact hg)⟩
 have := own_sortedK (n := n) (os := os) d' hd (hok g (by simp [Value.ownBlock])) hg hb h1 h2 h3
 rw [hone] at this
 exact this

end

section
/-! ### slices_DeleteFunc_Tile: function 78: written by hand -/
/-- A block whose first cells are the tiles of a list. -/
def rowIs (w : World) (g cap : Nat) (m : List S41) : Prop :=
 ∃ cur : Array Value, w.heap[g]? = some (.cells cur 41 (0, 0)) ∧ cur.size = cap * 2 ∧ m.length ≤ cap ∧ ∀ i x, m[i]? = some x → cur[i * 2]? = some (.int .i64 x.f0) ∧ cur[i * 2 + 1]? = some (.int .i64 x.f1)
theorem rowIs_below {w w' : World} {g cap : Nat} {m : List S41} (h : rowIs w g cap m) (hb : Below w.heap.size w w') : rowIs w' g cap m := by
 obtain ⟨cur, h1, h2⟩ := h
 exact ⟨cur, (hb.block g (Array.getElem?_eq_some_iff.1 h1).1).trans h1, h2⟩
theorem rowIs_lt {w : World} {g cap : Nat} {m : List S41} (h : rowIs w g cap m) : g < w.heap.size := by
 obtain ⟨cur, h1, h2⟩ := h
 exact (Array.getElem?_eq_some_iff.1 h1).1
theorem rowIs_at {w : World} {g cap : Nat} {m : List S41} (h : rowIs w g cap m) (i : Nat) (x : S41) (hx : m[i]? = some x) : w.cell? ⟨g, i * 2, none⟩ = some (.int .i64 x.f0) ∧ w.cell? ⟨g, i * 2 + 1, none⟩ = some (.int .i64 x.f1) ∧ w.frozen? ⟨g, i * 2, none⟩ = false ∧ w.frozen? ⟨g, i * 2 + 1, none⟩ = false := by
 obtain ⟨cur, h1, h2, h3, h4⟩ := h
 obtain ⟨a, b⟩ := h4 i x hx
 refine ⟨?_, ?_, by simp [World.frozen?, h1], by simp [World.frozen?, h1]⟩
 ·simp only [World.cell?, h1]; simpa using a
 ·simp only [World.cell?, h1]; simpa using b
theorem rowIs_set {w : World} {g cap : Nat} {m : List S41} (h : rowIs w g cap m) (i : Nat) (x : S41) (hi : i < m.length) : rowIs ((w.setCell ⟨g, i * 2, none⟩ (.int .i64 x.f0)).setCell ⟨g, i * 2 + 1, none⟩ (.int .i64 x.f1)) g cap (m.set i x) := by
 obtain ⟨cur, h1, h2, h3, h4⟩ := h
 refine ⟨_, heap_setCell_at (heap_setCell_at h1), by simp [h2], by simpa using h3, fun j y hy => ?_⟩
 have hs : i * 2 + 1 < cur.size := by omega
 by_cases e : j = i
 ·subst e
  rw [List.getElem?_set_self hi] at hy
  cases hy
  constructor
  ·rw [Array.getElem?_setIfInBounds_ne (by omega), Array.getElem?_setIfInBounds_self_of_lt (by omega)]
  ·rw [Array.getElem?_setIfInBounds_self_of_lt (by simp; omega)]
 ·rw [List.getElem?_set_ne (by omega)] at hy
  obtain ⟨a, b⟩ := h4 j y hy
  constructor
  ·rw [Array.getElem?_setIfInBounds_ne (by omega), Array.getElem?_setIfInBounds_ne (by omega)]; exact a
  ·rw [Array.getElem?_setIfInBounds_ne (by omega), Array.getElem?_setIfInBounds_ne (by omega)]; exact b
/-- Behind a clearing of the cells from place k on the first k tiles are as they were. -/
theorem rowIs_clear {w : World} {g cap : Nat} {m : List S41} (h : rowIs w g cap m) (k : Nat) (hk : k ≤ m.length) (o : Nat) (ho : k * 2 ≤ o) (vs : List Value) : rowIs (w.setCells g o vs) g cap (m.take k) := by
 obtain ⟨cur, h1, h2, h3, h4⟩ := h
 obtain ⟨c, k1, k2, k3⟩ := heap_setCells_at vs w o cur h1
 refine ⟨c, k1, by omega, by simp; omega, fun i x hx => ?_⟩
 have hik : i < k := by
  have := (List.getElem?_eq_some_iff.1 hx).1
  simp at this; omega
 rw [List.getElem?_take_of_lt hik] at hx
 rw [k3 _ (by omega), k3 _ (by omega)]
 exact h4 i x hx
theorem R_of_rowIs {w : World} {base g cap : Nat} {ok : Nat → Prop} {m : List S41} (h : rowIs w g cap m) (hg : base ≤ g) (hok : ok g) (hc : cap ≤ maxLen) : Kd.R k41 41 w base ok (.slice (some ⟨g, 0, none⟩) m.length cap) m := by
 obtain ⟨cur, h1, h2, h3, h4⟩ := h
 have hl : (cur.toList.take (m.length * 2)).length = m.length * 2 := by simp; omega
 refine ⟨fun k hk => ?_, cur.toList.take (m.length * 2), ⟨hl, .inr ⟨g, cap, cur, rfl, hg, h1, h3, hc, h2, rfl⟩⟩, hl, fun j p hj => ?_⟩
 ·have : g = k := by simpa [Value.ownBlock] using hk
  subst this; exact hok
 ·obtain ⟨a, b⟩ := h4 j p hj
  have hjl := (List.getElem?_eq_some_iff.1 hj).1
  have : ((cur.toList.take (m.length * 2)).drop (j * 2)).take 2 = [.int .i64 p.f0, .int .i64 p.f1] := by
   apply List.ext_getElem?
   intro i
   match i with
   | 0 => rw [List.getElem?_take_of_lt (by omega), List.getElem?_drop, List.getElem?_take_of_lt (by omega), Array.getElem?_toList]; exact a
   | 1 => rw [List.getElem?_take_of_lt (by omega), List.getElem?_drop, List.getElem?_take_of_lt (by omega), Array.getElem?_toList]; exact b
   | i + 2 => rw [List.getElem?_take_eq_none (by omega)]; simp
  show k41.M _ _ _ _ (((cur.toList.take (m.length * 2)).drop (j * 2)).take 2)
  rw [this]
  exact k41_mkM _ _ _ p
theorem rowIs_of_R {w : World} {base : Nat} {ok : Nat → Prop} {v : Value} {l : List S41} (h : Kd.R k41 41 w base ok v l) : (v = .slice none 0 0 ∧ l = []) ∨ ∃ g cap, v = .slice (some ⟨g, 0, none⟩) l.length cap ∧ base ≤ g ∧ ok g ∧ l.length ≤ cap ∧ cap ≤ maxLen ∧ rowIs w g cap l := by
 obtain ⟨hok, inner, ⟨hl, hd⟩, hr⟩ := h
 rcases hd with ⟨rfl, hn⟩ | ⟨g, cap, cur, rfl, hg, hb, h1, h2, h3, h4⟩
 ·exact .inl ⟨rfl, List.length_eq_zero_iff.1 hn⟩
 ·refine .inr ⟨g, cap, rfl, hg, hok g (by simp [Value.ownBlock]), h1, h2, cur, hb, h3, h1, fun i x hx => ?_⟩
  obtain ⟨hi, rfl⟩ := List.getElem?_eq_some_iff.1 hx
  obtain ⟨a, b⟩ := reps_two (fun x c hc => k41_openM hc) hr i hi
  subst h4
  rw [List.getElem?_take_of_lt (by show _ < l.length * 2; omega), Array.getElem?_toList] at a b
  exact ⟨a, b⟩
def clearZ (n : Nat) : List Value := (Builtin.zeroCells #[.int .i64 0, .int .i64 0] n).toList
theorem clearZ_length (n : Nat) : (clearZ n).length = n * 2 := by simp [clearZ, Builtin.zeroCells]
theorem clearZ_one (n : Nat) : ∀ v ∈ clearZ n, v.oneCell' = true := by
 intro v hv
 simp only [clearZ, Builtin.zeroCells, Array.toList_map, List.mem_map] at hv
 obtain ⟨i, _, rfl⟩ := hv
 have h2 : i % 2 = 0 ∨ i % 2 = 1 := Nat.mod_two_eq_zero_or_one i
 have e : (#[Value.int .i64 0, Value.int .i64 0] : Array Value).size = 2 := rfl
 rw [e]
 rcases h2 with h | h <;> rw [h] <;> rfl
theorem clear_tiles {w : World} {g cap : Nat} {m : List S41} (h : rowIs w g cap m) (i : Nat) (hi : i < m.length) (c' : Nat) (ty : TypeId) : (Builtin.clear_ #[27] ty #[.slice (some ⟨g, i * 2, none⟩) (m.length - i) c']).run Try.prog w = .ok (.tuple #[]) (w.setCells g (i * 2) (clearZ (m.length - i))) := by
 obtain ⟨cur, h1, h2, h3, h4⟩ := h
 have hst := run_storeCells_cells (P := Try.prog) g (i * 2) (clearZ (m.length - i)) 0 w (fun j hj => by
  rw [clearZ_length] at hj
  simp only [World.cell?, h1, Nat.add_zero]
  simp only [Option.isSome_none, Bool.false_eq_true, if_false]
  rw [Array.getElem?_eq_getElem (by omega)]; rfl) (fun j hj => by simp [World.frozen?, h1]) (clearZ_one _)
 simp only [Nat.add_zero] at hst
 obtain ⟨n, hn⟩ : ∃ n, m.length - i = n + 1 := ⟨m.length - i - 1, by omega⟩
 rw [hn] at hst ⊢
 have hv := Try.zeroValue41
 simp [Builtin.clear_, run_underlying Try.underlying27, hv, clearZ, Value.cells] at hst ⊢
 simp [hst]
/-- The call of a predicate at a tile, in every world that leaves what lies below base: it answers p, and turns nothing. -/
def PredTB (g : Nat) (lb : Array Value) (p : S41 → Bool) (base : Nat) (w : World) (x : S41) : Prop :=
 ∀ W, Below base w W → Calls Try.prog g (#[.agg #[.int .i64 x.f0, .int .i64 x.f1]] ++ lb) W fun e W' => e = .returned (.bool (p x)) ∧ Below W.heap.size W W'
set_option maxHeartbeats 4000000 in
set_option maxRecDepth 100000 in
theorem slices_DeleteFunc_Tile.gcalls (g : Nat) (lb : Array Value) (p : S41 → Bool) (base : Nat) (ok : Nat → Prop) (v : Value) (l : List S41) (w : World) (eg : ∀ args w, (callFunc g args).run Try.prog w = .ok (.enter g args) w)
  (hbase : base ≤ w.heap.size) (ho : Kd.R k41 41 w base ok v l) (hp : ∀ x ∈ l, PredTB g lb p base w x) :
  Calls Try.prog 78 #[v, .func (.func g) #[] lb] w fun e w' => ∃ v', e = .returned v' ∧ Kd.R k41 41 w' base ok v' (l.filter fun x => !p x) ∧ Below base w w' := by
 obtain ⟨A, c, rfl, hlc, hC⟩ := Kd.R_reads ho
 have hIF := slices_IndexFunc_Tile.gcalls g lb p A c l w eg hC hlc (fun x hx W hb => (hp x hx W (hb.mono hbase)).mono fun e W' ⟨he, hb'⟩ => ⟨he, below_then hb hb.size hb'⟩)
 by_cases hany : l.any p = true
 case neg =>
  have hall : ∀ x ∈ l, p x = false := by
   intro x hx
   cases h : p x with
   | false => rfl
   | true => exact absurd (List.any_eq_true.2 ⟨x, hx, h⟩) hany
  have hi : idxB p l = -1 := by unfold idxB; rw [if_neg hany]
  rw [hi] at hIF
  have HO := aM ho
  have HF := aM (show (l.filter fun x => !p x) = l from List.filter_eq_self.2 fun x hx => by rw [hall x hx]; rfl)
  have HBS := aM hbase
  clear ho hp hC hall hi hany
  go_enter Try.func78, Try.ntmps78
  go_wp2_with (go_at_call 59; refine hIF.mono ?_; rintro e w' ⟨rfl, hb⟩; have HB := aM hb; clear hb)
  go_ret
  rw [HF.out]
  exact ⟨_, rfl, Kd.R_below HO.out HB.out, HB.out.mono HBS.out⟩
 case pos =>
  obtain ⟨k0, hk0, hi, hpk, hbef⟩ : ∃ k0, ∃ h : k0 < l.length, idxB p l = (k0 : Int) ∧ p l[k0] = true ∧ ∀ t, t < k0 → ∀ x, l[t]? = some x → p x = false := by
   refine ⟨l.findIdx p, List.findIdx_lt_length_of_exists (by simpa using hany), by unfold idxB; rw [if_pos hany], List.findIdx_getElem, fun t ht x hx => ?_⟩
   obtain ⟨h, rfl⟩ := List.getElem?_eq_some_iff.1 hx
   simpa using List.not_of_lt_findIdx ht
  rcases rowIs_of_R ho with ⟨_, rfl⟩ | ⟨gb, cap, hv, hgb, hokg, hlcap, hcap, hrow⟩
  ·exact absurd hk0 (Nat.not_lt_zero _)
  injection hv with e1 e2 e3
  subst e1 e3
  rw [hi] at hIF
  have hne : ((k0 : Int) == -1) = false := beq_eq_false_iff_ne.2 (by omega)
  have hst := KeptL.start (q := fun x => !p x) hk0 (by rw [hpk]; rfl) (fun t ht x hx => by rw [hbef t ht x hx]; rfl)
  have hbig : l.length ≤ 9223372036854775807 := hC.2.1
  have HP := aM hp
  have HS := aM hst
  have HR := aM hrow
  have HG := aM (show base ≤ gb ∧ ok gb ∧ c ≤ maxLen ∧ base ≤ w.heap.size from ⟨hgb, hokg, hcap, hbase⟩)
  clear ho hp hC hi hpk hbef hrow hst hgb hokg hcap hbase hany
  go_enter Try.func78, Try.ntmps78
  go_wp2_with (go_at_call 59; refine hIF.mono ?_; rintro e w1 ⟨rfl, hb⟩; have HB1 := aM hb; clear hb)
  go_loopg [5, 6, 7] l.length (fun gg s5 s6 _ wr => ∃ (i j : Nat) (m : List S41), s5 = .int .i64 i ∧ s6 = .int .i64 j ∧ j ≤ l.length ∧ l.length - j ≤ gg ∧ Aside0 (KeptL (fun x => !p x) l j i m) ∧ Aside0 (rowIs wr gb c m) ∧ Aside0 (Below base w wr))
  case atStart => exact ⟨k0, k0 + 1, l, rfl, by go_num, by omega, by omega, HS, ⟨rowIs_below HR.out HB1.out⟩, ⟨HB1.out.mono HG.out.2.2.2⟩⟩
  case round =>
   obtain ⟨i, j, m, rfl, rfl, hj, hg, HK, HRr, HBr⟩ := hrel
   have hij := HK.out.lt
   have hml := HK.out.len
   have hbs : base ≤ wr.heap.size := Nat.le_trans HG.out.2.2.2 HBr.out.size
   have HBS := aM hbs
   clear hbs
   by_cases hlt : j < l.length
   ·have hltz : (j : Int) < (l.length : Int) := by omega
    obtain ⟨x, hx⟩ : ∃ x, l[j]? = some x := ⟨_, List.getElem?_eq_getElem hlt⟩
    have hmx : m[j]? = some x := by rw [HK.out.high j (Nat.le_refl _)]; exact hx
    obtain ⟨y, hy⟩ : ∃ y, m[i]? = some y := ⟨_, List.getElem?_eq_getElem (by omega)⟩
    obtain ⟨hx0, hx1, _, _⟩ := rowIs_at HRr.out j x hmx
    have HY := aM hy
    have hxl : l[j] = x := by rw [List.getElem?_eq_getElem hlt] at hx; exact Option.some.inj hx
    have hcall : ∀ W, Below base w W → Calls Try.prog g (#[.agg #[.int .i64 x.f0, .int .i64 x.f1]] ++ lb) W fun e W' => e = .returned (.bool (p x)) ∧ Below W.heap.size W W' := fun W hb => HP.out x (List.mem_of_getElem? hx) W hb
    have HX := aM hxl
    clear hmx hx hy hxl
    cases hq : p x with
    | true =>
     rw [hq] at hcall
     have HQ := aM hq
     clear hq
     go_wp2_with (go_at_fn g; refine (hcall _ (HBr.out.alloc HBS.out _)).mono ?_; rintro e w2 ⟨rfl, hb2⟩)
     go_roundg (l.length - (j + 1))
     case measure => omega
     case rel =>
      have hbw : Below wr.heap.size wr w2 := below_then ((Below.refl _ _).alloc (Nat.le_refl _) _) (by simp) hb2
      exact ⟨i, j + 1, m, rfl, by go_num, by omega, Nat.le_refl _, ⟨HK.out.skip hlt (by rw [HX.out, HQ.out]; rfl)⟩, ⟨rowIs_below HRr.out hbw⟩, ⟨below_then HBr.out HBS.out hbw⟩⟩
    | false =>
     rw [hq] at hcall
     have HQ := aM hq
     clear hq
     have hlen2 : i < m.length := by omega
     have hyi : m[i]? = some y := HY.out
     go_wp2_with (go_at_fn g; refine (hcall _ (HBr.out.alloc HBS.out _)).mono ?_; rintro e w2 ⟨rfl, hb2⟩; have hv0 : w2.cell? ⟨wr.heap.size, 0, none⟩ = some (.int .i64 x.f0) := (hb2.cell (by simp)).trans (by simp only [World.cell?, heap_alloc_new]; rfl); have hv1 : w2.cell? ⟨wr.heap.size, 1, none⟩ = some (.int .i64 x.f1) := (hb2.cell (by simp)).trans (by simp only [World.cell?, heap_alloc_new]; rfl); have hbw : Below wr.heap.size wr w2 := below_then ((Below.refl _ _).alloc (Nat.le_refl _) _) (by simp) hb2; have HBW := aM hbw; have hrw := rowIs_below HRr.out hbw; have HRW := aM hrw; obtain ⟨hz0, hz1, hf0, hf1⟩ := rowIs_at hrw i y hyi; clear hbw hb2 hrw hyi hcall hx0 hx1)
     go_roundg (l.length - (j + 1))
     case measure => omega
     case rel => exact ⟨i + 1, j + 1, m.set i x, by go_num, by go_num, by omega, Nat.le_refl _, ⟨by have := HK.out.keep hlt (by rw [HX.out, HQ.out]; rfl); rwa [HX.out] at this⟩, ⟨rowIs_set HRW.out i x hlen2⟩, ⟨below_row_set (below_row_set (below_then HBr.out HBS.out HBW.out) HG.out.1) HG.out.1⟩⟩
   ·obtain rfl : j = l.length := by omega
    have hltz : ¬ (l.length : Int) < (l.length : Int) := by omega
    have hcl := fun ty => clear_tiles HRr.out i (by omega) (c - i) ty
    rw [hml] at hcl
    have hlow := HK.out.low
    rw [List.take_length] at hlow
    have HLW := aM hlow
    have hmi : (m.take i).length = i := by simp; omega
    have HMI := aM hmi
    clear hlow hmi
    go_wp2
    go_ret
    refine ⟨_, rfl, ?_, below_setCells HG.out.1 _ _ _ HBr.out⟩
    rw [← HLW.out]
    have := R_of_rowIs (base := base) (ok := ok) (rowIs_clear HRr.out i (by omega) (i * 2) (Nat.le_refl _) (clearZ (l.length - i))) HG.out.1 HG.out.2.1 HG.out.2.2.1
    rw [HMI.out] at this
    exact this

end

section
/-! ### slices_Delete_Tile: function 48: written by hand -/
theorem heap_setCells_mid {g : Nat} {e : TypeId} {fr : Nat × Nat} : ∀ (vs : List Value) (w : World) (o : Nat) (cur : Array Value), w.heap[g]? = some (.cells cur e fr) → o + vs.length ≤ cur.size → ∃ cur', (w.setCells g o vs).heap[g]? = some (.cells cur' e fr) ∧ cur'.size = cur.size ∧ (∀ j, j < o → cur'[j]? = cur[j]?) ∧ (∀ j, o + vs.length ≤ j → cur'[j]? = cur[j]?) ∧ ∀ j, j < vs.length → cur'[o + j]? = vs[j]?
 | [], w, o, cur, h, _ => ⟨cur, h, rfl, fun _ _ => rfl, fun _ _ => rfl, fun j hj => absurd hj (Nat.not_lt_zero _)⟩
 | v :: vs, w, o, cur, h, hl => by
  rw [List.length_cons] at hl
  obtain ⟨c, h1, h2, h3, h4, h5⟩ := heap_setCells_mid vs (w.setCell ⟨g, o, none⟩ v) (o + 1) _ (heap_setCell_at h) (by simp; omega)
  refine ⟨c, h1, by simpa using h2, fun j hj => by rw [h3 j (by omega), Array.getElem?_setIfInBounds_ne (by omega)], fun j hj => by rw [List.length_cons] at hj; rw [h4 j (by omega), Array.getElem?_setIfInBounds_ne (by omega)], fun j hj => ?_⟩
  cases j with
  | zero => rw [Nat.add_zero, h3 o (by omega), Array.getElem?_setIfInBounds_self_of_lt (by omega)]; rfl
  | succ j =>
   rw [List.length_cons] at hj
   rw [show o + (j + 1) = o + 1 + j by omega, h5 j (by omega)]; rfl
def encTs : List S41 → List Value
 | [] => []
 | x :: l => .int .i64 x.f0 :: .int .i64 x.f1 :: encTs l
theorem encTs_length : ∀ l, (encTs l).length = l.length * 2
 | [] => rfl
 | x :: l => by rw [encTs, List.length_cons, List.length_cons, encTs_length l, List.length_cons]; omega
theorem encTs_at : ∀ (l : List S41) (j : Nat) (x : S41), l[j]? = some x → (encTs l)[j * 2]? = some (.int .i64 x.f0) ∧ (encTs l)[j * 2 + 1]? = some (.int .i64 x.f1)
 | [], j, x, h => by simp at h
 | y :: l, 0, x, h => by
  obtain rfl : y = x := by simpa using h
  exact ⟨rfl, rfl⟩
 | y :: l, j + 1, x, h => by
  have := encTs_at l j x (by simpa using h)
  rw [encTs, show (j + 1) * 2 = j * 2 + 1 + 1 by omega, List.getElem?_cons_succ, List.getElem?_cons_succ, show j * 2 + 1 + 1 + 1 = (j * 2 + 1) + 1 + 1 by omega, List.getElem?_cons_succ, List.getElem?_cons_succ]
  exact this
theorem encTs_some (l : List S41) (t : Nat) (u : Value) (h : (encTs l)[t]? = some u) : ∃ j x, l[j]? = some x ∧ ((t = j * 2 ∧ u = .int .i64 x.f0) ∨ (t = j * 2 + 1 ∧ u = .int .i64 x.f1)) := by
 have ht := (List.getElem?_eq_some_iff.1 h).1
 rw [encTs_length] at ht
 obtain ⟨x, hx⟩ : ∃ x, l[t / 2]? = some x := ⟨_, List.getElem?_eq_getElem (by omega)⟩
 obtain ⟨a, b⟩ := encTs_at l (t / 2) x hx
 refine ⟨t / 2, x, hx, ?_⟩
 rcases Nat.mod_two_eq_zero_or_one t with c | c
 ·have e : t / 2 * 2 = t := by omega
  rw [e, h] at a
  exact .inl ⟨e.symm, Option.some.inj a⟩
 ·have e : t / 2 * 2 + 1 = t := by omega
  rw [e, h] at b
  exact .inr ⟨e.symm, Option.some.inj b⟩
theorem encTs_one (l : List S41) : ∀ u ∈ encTs l, u.oneCell' = true := by
 intro u hu
 obtain ⟨t, ht⟩ := List.getElem?_of_mem hu
 obtain ⟨j, x, _, ⟨_, rfl⟩ | ⟨_, rfl⟩⟩ := encTs_some l t u ht <;> rfl
theorem rowIs_moved {w : World} {g cap : Nat} {l : List S41} (h : rowIs w g cap l) (i : Nat) (hi : i < l.length) : ∃ m : List S41, m.length = l.length ∧ m.take (l.length - 1) = l.eraseIdx i ∧ rowIs (w.setCells g (i * 2) (encTs (l.drop (i + 1)))) g cap m := by
 obtain ⟨z, hz⟩ : ∃ z, l[l.length - 1]? = some z := ⟨_, List.getElem?_eq_getElem (by omega)⟩
 have hle : (l.eraseIdx i).length = l.length - 1 := by rw [List.length_eraseIdx, if_pos hi]
 refine ⟨l.eraseIdx i ++ [z], by rw [List.length_append, hle, List.length_singleton]; omega, by rw [← hle, List.take_left], ?_⟩
 obtain ⟨cur, h1, h2, h3, h4⟩ := h
 have hdl : (encTs (l.drop (i + 1))).length = (l.length - (i + 1)) * 2 := by rw [encTs_length, List.length_drop]
 obtain ⟨c1, k1, k2, k3, k4, k5⟩ := heap_setCells_mid (encTs (l.drop (i + 1))) w (i * 2) cur h1 (by rw [hdl]; omega)
 rw [hdl] at k4 k5
 refine ⟨c1, k1, by omega, by rw [List.length_append, hle, List.length_singleton]; omega, fun j x hx => ?_⟩
 by_cases c : j < l.length - 1
 ·rw [List.getElem?_append_left (by omega), List.getElem?_eraseIdx] at hx
  by_cases d : j < i
  ·rw [if_pos d] at hx
   rw [k3 _ (by omega), k3 _ (by omega)]
   exact h4 j x hx
  ·rw [if_neg d] at hx
   have hd : (l.drop (i + 1))[j - i]? = some x := by rw [List.getElem?_drop, show i + 1 + (j - i) = j + 1 by omega]; exact hx
   obtain ⟨a, b⟩ := encTs_at _ _ _ hd
   rw [← k5 _ (by omega)] at a b
   rw [show i * 2 + (j - i) * 2 = j * 2 by omega] at a
   rw [show i * 2 + ((j - i) * 2 + 1) = j * 2 + 1 by omega] at b
   exact ⟨a, b⟩
 ·have hj := (List.getElem?_eq_some_iff.1 hx).1
  rw [List.length_append, hle, List.length_singleton] at hj
  rw [List.getElem?_append_right (by omega), hle, show j - (l.length - 1) = 0 by omega] at hx
  obtain rfl : z = x := by simpa using hx
  have := h4 (l.length - 1) z hz
  rw [k4 _ (by omega), k4 _ (by omega), show j = l.length - 1 by omega]
  exact this
set_option maxHeartbeats 4000000 in
set_option maxRecDepth 1000000 in
theorem slices_Delete_Tile.gcalls (base : Nat) (ok : Nat → Prop) (v : Value) (l : List S41) (i : Nat) (w : World) (hbase : base ≤ w.heap.size) (ho : Kd.R k41 41 w base ok v l) (hi : i < l.length) :
  Calls Try.prog 48 #[v, .int .i64 (i : Int), .int .i64 ((i + 1 : Nat) : Int)] w fun e w' => ∃ v', e = .returned v' ∧ Kd.R k41 41 w' base ok v' (l.eraseIdx i) ∧ Below base w w' := by
 rcases rowIs_of_R ho with ⟨_, rfl⟩ | ⟨g, cap, rfl, hg, hokg, hlc, hcap, hrow⟩
 ·exact absurd hi (Nat.not_lt_zero _)
 have hcap' : cap ≤ 9223372036854775807 := by simpa [maxLen] using hcap
 obtain ⟨i0, hi0, hz0, hz1, hz2⟩ := info_parts info41
 obtain ⟨m, hml, hmt, hrm⟩ := rowIs_moved (w := w.drew) (show rowIs w.drew g cap l from hrow) i hi
 obtain ⟨news, hnews⟩ : ∃ news, news = encTs (l.drop (i + 1)) := ⟨_, rfl⟩
 rw [← hnews] at hrm
 have hlen : news.length = (l.length - (i + 1)) * 2 := by rw [hnews, encTs_length, List.length_drop]
 obtain ⟨A, hA, hsrc⟩ : ∃ A : Addr, (if cap = i + 1 then (some ⟨g, 0, none⟩ : Option Addr) else some ⟨g, (i + 1) * 2, none⟩) = some A ∧ Hid (∀ t u, news[t]? = some u → w.drew.cell? (A.add t) = some u) := by
  by_cases h : cap = i + 1
  ·refine ⟨⟨g, 0, none⟩, by simp [h], fun t u hu => ?_⟩
   have h0 : news.length = 0 := by rw [hlen]; omega
   rw [List.length_eq_zero_iff.1 h0] at hu
   simp at hu
  ·refine ⟨⟨g, (i + 1) * 2, none⟩, by simp [h], fun t u hu => ?_⟩
   rw [hnews] at hu
   obtain ⟨j, x, hx, hu2⟩ := encTs_some _ t u hu
   rw [List.getElem?_drop] at hx
   obtain ⟨a, b, _, _⟩ := rowIs_at hrow (i + 1 + j) x hx
   show w.cell? ((⟨g, (i + 1) * 2, none⟩ : Addr).add t) = some u
   rw [Addr.add_lit]
   rcases hu2 with ⟨rfl, rfl⟩ | ⟨rfl, rfl⟩
   ·rw [show (i + 1) * 2 + j * 2 = (i + 1 + j) * 2 by omega]; exact a
   ·rw [show (i + 1) * 2 + (j * 2 + 1) = (i + 1 + j) * 2 + 1 by omega]; exact b
 have s1 : Hid (news.length = (l.length - (i + 1)) * 2) := hlen
 have s2 : Hid (∀ u ∈ news, u.oneCell' = true) := by rw [hnews]; exact encTs_one _
 have s3 : Hid (∀ t, t < news.length → (w.drew.cell? ⟨g, 0 + i * 2 + t, none⟩).isSome = true ∧ w.drew.frozen? ⟨g, 0 + i * 2 + t, none⟩ = false) := by
  intro t ht
  rw [hlen] at ht
  obtain ⟨cur, h1, h2, h3, h4⟩ := hrow
  have h1' : w.drew.heap[g]? = some (.cells cur 41 (0, 0)) := h1
  refine ⟨?_, by simp [World.frozen?, h1']⟩
  simp only [World.cell?, h1']
  simp only [Option.isSome_none, Bool.false_eq_true, if_false]
  rw [Array.getElem?_eq_getElem (by omega)]; rfl
 obtain ⟨W1, hW1⟩ : ∃ W1, W1 = w.drew.setCells g (i * 2) news := ⟨_, rfl⟩
 rw [← hW1] at hrm
 have hcl := fun ty => clear_tiles hrm (i + (l.length - (i + 1))) (by omega) (cap - (i + (l.length - (i + 1)))) ty
 rw [hml] at hcl
 have HM := aM (And.intro hml (And.intro hmt hrm))
 have HG := aM (show base ≤ g ∧ ok g ∧ cap ≤ maxLen from ⟨hg, hokg, hcap⟩)
 have hW : Hid (W1 = w.drew.setCells g (0 + i * 2) news) := by rw [Nat.zero_add]; exact hW1
 have HW := aM hW1
 have hic : i ≤ cap := by omega
 have hjc : i + 1 ≤ cap := by omega
 have hne : ¬ ((i : Int) = ((i + 1 : Nat) : Int)) := by omega
 have hq1 : 0 ≤ (i : Int) + 1 := by omega
 have hq2 : (i : Int) + 1 ≤ (l.length : Int) := by omega
 clear hW1 hrow hrm hml hmt hlen hnews hg hokg hcap
 go_enter Try.func48, Try.ntmps48
 go_wp2_with fail
 go_region_law (refine step_append_room rfl (.tmp 22) (.tmp 25) 27 rfl 41 i0 2 Try.underlying27 hi0 hz1 g 0 i cap (by simp [Act.eval, Act.put]) A (l.length - (i + 1)) (cap - (i + 1)) news (by simp [Act.eval, Act.put]) s1.out hsrc.out s2.out (by omega) s3.out ?_; rw [← hW.out])
 go_wp2
 go_ret
 have hq : i + (l.length - (i + 1)) = l.length - 1 := by omega
 have hml := HM.out.1
 have hR := R_of_rowIs (base := base) (ok := ok) (rowIs_clear HM.out.2.2 (l.length - 1) (by omega) ((l.length - 1) * 2) (Nat.le_refl _) (clearZ (l.length - (l.length - 1)))) HG.out.1 HG.out.2.1 HG.out.2.2
 have hel : (l.eraseIdx i).length = l.length - 1 := by rw [List.length_eraseIdx, if_pos hi]
 rw [HM.out.2.1, hel] at hR
 refine ⟨_, rfl, by rw [hq]; exact hR, below_setCells HG.out.1 _ _ _ ?_⟩
 rw [HW.out]
 exact below_setCells HG.out.1 _ _ _ (bD ((Below.refl w.heap.size w).mono hbase))

end

section
/-! ### slices_Index_int: function 68 -/
def slices_Index_int.l0 : Nat → List Int → Int → Int → Int → Option (Int)
 | 0, _, _, _, _ => none
 | k + 1, x0, x1, x7, x8 => if x8 < x7 then (if 0 ≤ x8 then (if x8 < (x0.length : Int) then (if x1 = (rd x0 x8) then (some x8) else (slices_Index_int.l0 k x0 x1 x7 (wrap64 (x8 + 1)))) else (none)) else (none)) else (some (-1))
def slices_Index_int.f (k : Nat) (l0 : List Int) (a1 : Int) : Option (Int) := slices_Index_int.l0 k l0 a1 (l0.length : Int) 0
theorem slices_Index_int.mono_l : ∀ k, (∀ y0 y1 y2 y3, LeO (slices_Index_int.l0 k y0 y1 y2 y3) (slices_Index_int.l0 (k + 1) y0 y1 y2 y3))
 | 0 => fun _ _ _ _ r h => by simp [slices_Index_int.l0] at h
 | k + 1 => by
  have ih0 := slices_Index_int.mono_l k
  ·intro y0 y1 y2 y3
   unfold slices_Index_int.l0
   repeat' first
   | (with_reducible exact ih0 _ _ _ _)
   | (with_reducible exact LeO.refl _)
   | (with_reducible exact LeO.none _)
   | (with_reducible refine LeO.ite ?_ ?_)
   | (with_reducible refine LeO.bind ?_ (fun _ => ?_))
   | exact ih0 _ _ _ _
   | exact LeO.none _
   | refine LeO.ite ?_ ?_
   | refine LeO.bind ?_ (fun _ => ?_)
theorem slices_Index_int.mono : ∀ a0 a1 k, LeO (slices_Index_int.f k a0 a1) (slices_Index_int.f (k + 1) a0 a1) := by
 intro a0 a1 k
 have ih0 := slices_Index_int.mono_l k
 unfold slices_Index_int.f
 repeat' first
   | (with_reducible exact ih0 _ _ _ _)
   | (with_reducible exact LeO.refl _)
   | (with_reducible exact LeO.none _)
   | (with_reducible refine LeO.ite ?_ ?_)
   | (with_reducible refine LeO.bind ?_ (fun _ => ?_))
   | exact ih0 _ _ _ _
   | exact LeO.none _
   | refine LeO.ite ?_ ?_
   | refine LeO.bind ?_ (fun _ => ?_)
set_option maxHeartbeats 8000000 in
set_option maxRecDepth 100000 in
theorem slices_Index_int.calls (k : Nat) (A0 : Option Addr) (c0 : Nat) (l0 : List Int) (a1 : Int) (r : Int) (w : World) (hr0 : Kd.C (Kd.int .i64) w A0 l0.length l0) (hc0 : l0.length ≤ c0) (h : slices_Index_int.f k l0 a1 = some r) :
  Calls Try.prog 68 #[.slice A0 l0.length c0, .int .i64 a1] w fun e w' => e = .returned (.int .i64 r) ∧ Drawn0 w w' := by
 have HR0 := aM hr0
 have HC0 := aM hc0
 clear hr0 hc0
 have H : (slices_Index_int.l0 k l0 a1 (l0.length : Int) 0) = some r := h
 clear h
 have H' := aM H
 clear H
 go_enter Try.func68, Try.ntmps68
 go_wp2
 go_loopg [8] k (fun kq v8 w' => ∃ (x8_1 : Int), v8 = .int .i64 x8_1 ∧ Aside0 (slices_Index_int.l0 kq l0 a1 (l0.length : Int) x8_1 = some r) ∧ Aside0 (kq ≤ k) ∧ Drawn0 w w')
 case atStart => exact ⟨(0), (by first | rfl | (simp; done) | (simp [*]; done)), H', ⟨Nat.le_refl _⟩, by repeat (first | exact Drawn0.refl _ | apply Drawn0.step)⟩
 case round =>
  clear H'
  try clear p2
  obtain ⟨x8_1, rfl, HA, HK1, ⟨m1, rfl⟩⟩ := hrel
  cases gk with
  | zero => exact absurd HA.out (by simp [slices_Index_int.l0])
  | succ k1 =>
   have H := HA.out
   clear HA
   simp only [slices_Index_int.l0] at H
   by_cases c3 : x8_1 < (l0.length : Int)
   ·rw [if_pos c3] at H
    have c3b0 : decide (x8_1 < (l0.length : Int)) = true := decide_eq_true c3
    clear c3
    by_cases c4 : 0 ≤ x8_1
    ·rw [if_pos c4] at H
     have c4b0 : decide (0 ≤ x8_1) = true := decide_eq_true c4
     clear c4
     by_cases c5 : x8_1 < (l0.length : Int)
     ·rw [if_pos c5] at H
      have c5b0 : decide (x8_1 < (l0.length : Int)) = true := decide_eq_true c5
      clear c5
      by_cases c6 : a1 = (rd l0 x8_1)
      ·rw [if_pos c6] at H
       have c6b0 : (a1 == (rd l0 x8_1)) = true := beq_iff_eq.mpr c6
       have c6b1 : (a1 != (rd l0 x8_1)) = false := bne_eq_false_iff_eq.mpr c6
       clear c6
       obtain rfl := Option.some.inj H
       have p264 : 0 ≤ (x8_1 : Int) := oD (by first | (with_reducible assumption) | assumption)
       have q264 : x8_1 < (l0.length : Int) := oD (by first | (with_reducible assumption) | assumption)
       obtain ⟨ad264, e264, hx264_0⟩ := Kd.at_int HR0.out x8_1 p264 q264
       cases e264
       replace p264 := eq_true p264
       replace q264 := eq_true q264
       go_wp2
       go_ret
       exact ⟨by first | rfl | (simp; done) | (simp [*]; done), by repeat (first | exact Drawn0.refl _ | apply Drawn0.step)⟩
      ·rw [if_neg c6] at H
       have c6b0 : (a1 == (rd l0 x8_1)) = false := beq_eq_false_iff_ne.mpr c6
       have c6b1 : (a1 != (rd l0 x8_1)) = true := bne_iff_ne.mpr c6
       have H' := aM H
       clear H
       have p264 : 0 ≤ (x8_1 : Int) := oD (by first | (with_reducible assumption) | assumption)
       have q264 : x8_1 < (l0.length : Int) := oD (by first | (with_reducible assumption) | assumption)
       obtain ⟨ad264, e264, hx264_0⟩ := Kd.at_int HR0.out x8_1 p264 q264
       cases e264
       replace p264 := eq_true p264
       replace q264 := eq_true q264
       go_wp2
       go_roundg k1
       case measure => have := HK1.out; omega
       case rel => exact ⟨(wrap64 (x8_1 + 1)), (by first | rfl | (simp; done) | (simp [*]; done)), H', ⟨by have := HK1.out; omega⟩, by repeat (first | exact Drawn0.refl _ | apply Drawn0.step)⟩
     ·rw [if_neg c5] at H
      exact absurd H (by simp)
    ·rw [if_neg c4] at H
     exact absurd H (by simp)
   ·rw [if_neg c3] at H
    have c3b0 : decide (x8_1 < (l0.length : Int)) = false := decide_eq_false c3
    clear c3
    obtain rfl := Option.some.inj H
    go_wp2
    go_ret
    exact ⟨by first | rfl | (simp; done) | (simp [*]; done), by repeat (first | exact Drawn0.refl _ | apply Drawn0.step)⟩

end

section
/-! ### slices_Contains_int: function 49 -/
def slices_Contains_int.f (k : Nat) (l0 : List Int) (a1 : Int) : Option (Bool) := (slices_Index_int.f k l0 a1).bind fun t265 => (some (decide (t265 ≥ 0)))
theorem slices_Contains_int.mono : ∀ a0 a1 k, LeO (slices_Contains_int.f k a0 a1) (slices_Contains_int.f (k + 1) a0 a1) := by
 intro a0 a1 k
 unfold slices_Contains_int.f
 repeat' first
   | (with_reducible exact slices_Index_int.mono _ _ _)
   | (with_reducible exact LeO.refl _)
   | (with_reducible exact LeO.none _)
   | (with_reducible refine LeO.ite ?_ ?_)
   | (with_reducible refine LeO.bind ?_ (fun _ => ?_))
   | exact slices_Index_int.mono _ _ _
   | exact LeO.none _
   | refine LeO.ite ?_ ?_
   | refine LeO.bind ?_ (fun _ => ?_)
set_option maxHeartbeats 8000000 in
set_option maxRecDepth 100000 in
theorem slices_Contains_int.calls (k : Nat) (A0 : Option Addr) (c0 : Nat) (l0 : List Int) (a1 : Int) (r : Bool) (w : World) (hr0 : Kd.C (Kd.int .i64) w A0 l0.length l0) (hc0 : l0.length ≤ c0) (h : slices_Contains_int.f k l0 a1 = some r) :
  Calls Try.prog 49 #[.slice A0 l0.length c0, .int .i64 a1] w fun e w' => e = .returned (.bool r) ∧ Drawn0 w w' := by
 have HR0 := aM hr0
 have HC0 := aM hc0
 clear hr0 hc0
 have H : ((slices_Index_int.f k l0 a1).bind fun t265 => (some (decide (t265 ≥ 0)))) = some r := h
 clear h
 replace H := oB H
 obtain ⟨t265, A30, H⟩ := H
 replace H : (some (decide (t265 ≥ 0))) = some r := H
 have A3 := aM A30
 clear A30
 obtain rfl := Option.some.inj H
 go_enter Try.func49, Try.ntmps49
 go_wp2_with (first | ((with_reducible refine gate_callee (f := 68) rfl ?_); refine goesL_ (some 7) rfl rfl Try.func68 (by kernel_rfl) rfl #[.slice A0 l0.length c0, .int .i64 a1] rfl (by (try simp only [List.map_toArray, List.map_cons, List.map_nil]); first | done | rfl | (simp only [List.length_drop, List.length_take]; rfl)) ?_; (with_reducible refine (slices_Index_int.calls k _ _ l0 a1 t265 _ ?side1 ?side2 A3.out).mono ?_); (case side1 => repeat (first | exact HR0.out | (with_reducible refine Kd.C_alloc ?_ _) | (with_reducible refine Kd.C_drewN ?_ _) | (with_reducible refine Kd.C_drew ?_))); (case side2 => exact HC0.out); rintro e w' ⟨rfl, ⟨nd, rfl⟩⟩; refine ⟨_, rfl, ?_⟩))
 go_ret
 exact ⟨by first | rfl | (simp; done) | (simp [*]; done), by repeat (first | exact Drawn0.refl _ | apply Drawn0.step)⟩

end

section
/-! ### impl_firstWhole: function 27: written by hand -/
def fwTile (a b : Int) : S41 := ⟨mn a b, mx a b⟩
/-- The first number with which the chain goes on, and the tiles that are left then. -/
def fwScan (gs : List S41 → Option (List (List Int))) (left : List S41) (last : Int) : Nat → Nat → Option (Option (Int × List S41))
 | 0, _ => some none
 | d + 1, n => if fwTile last (n : Int) ∈ left then ((gs (left.erase (fwTile last (n : Int)))).bind fun g => if left.erase (fwTile last (n : Int)) = [] ∨ (g.length = 1 ∧ (n : Int) ∈ g.getD 0 []) then some (some ((n : Int), left.erase (fwTile last (n : Int)))) else fwScan gs left last d (n + 1)) else fwScan gs left last d (n + 1)
def fwLoop (gs : List S41 → Option (List (List Int))) : Nat → List S41 → List Int → Option (List Int)
 | 0, _, _ => none
 | f + 1, left, out => if left = [] then some out else ((fwScan gs left (out.getLast?.getD 0) 10 0).bind fun o => match o with | some (n, rest) => fwLoop gs f rest (out ++ [n]) | none => none)
theorem fwScan_mono {gs gs' : List S41 → Option (List (List Int))} (h : ∀ l r, gs l = some r → gs' l = some r) (left : List S41) (last : Int) : ∀ d n r, fwScan gs left last d n = some r → fwScan gs' left last d n = some r
 | 0, n, r, e => e
 | d + 1, n, r, e => by
  unfold fwScan at e ⊢
  by_cases c : fwTile last (n : Int) ∈ left
  ·rw [if_pos c] at e ⊢
   obtain ⟨g, h1, h2⟩ := Option.bind_eq_some_iff.1 e
   rw [h _ _ h1, Option.bind_some]
   by_cases c2 : left.erase (fwTile last (n : Int)) = [] ∨ (g.length = 1 ∧ (n : Int) ∈ g.getD 0 [])
   ·rw [if_pos c2] at h2 ⊢; exact h2
   ·rw [if_neg c2] at h2 ⊢; exact fwScan_mono h left last d (n + 1) r h2
  ·rw [if_neg c] at e ⊢; exact fwScan_mono h left last d (n + 1) r e
theorem fwLoop_mono {gs gs' : List S41 → Option (List (List Int))} (h : ∀ l r, gs l = some r → gs' l = some r) : ∀ f left out r, fwLoop gs f left out = some r → fwLoop gs' (f + 1) left out = some r
 | 0, left, out, r, e => by cases e
 | f + 1, left, out, r, e => by
  unfold fwLoop at e ⊢
  by_cases c : left = []
  ·rw [if_pos c] at e ⊢; exact e
  ·rw [if_neg c] at e ⊢
   obtain ⟨o, h1, h2⟩ := Option.bind_eq_some_iff.1 e
   rw [fwScan_mono h _ _ _ _ _ h1, Option.bind_some]
   match o, h2 with
   | some (n, rest), h2 => exact fwLoop_mono h f rest (out ++ [n]) r h2
def impl_firstWhole.f (k : Nat) (l0 : List S41) : Option (List Int) := (impl_odd.f k l0).bind fun o => (impl_numbers.f k l0).bind fun ns => (slices_Concat_int.f k [o, ns]).bind fun st => if l0.length ≤ 55 ∧ (∀ t ∈ l0, goodT t = true) ∧ (∀ n ∈ st, 0 ≤ n ∧ n ≤ 9) then (if l0 = [] ∧ st = [] then some [0] else if l0 ≠ [] ∧ st ≠ [] then fwLoop (impl_groups.f k) k l0 [st.headD 0] else none) else none
theorem impl_firstWhole.mono : ∀ a0 k, LeO (impl_firstWhole.f k a0) (impl_firstWhole.f (k + 1) a0) := by
 intro a0 k r h
 unfold impl_firstWhole.f at h ⊢
 obtain ⟨o, h1, h⟩ := Option.bind_eq_some_iff.1 h
 obtain ⟨ns, h2, h⟩ := Option.bind_eq_some_iff.1 h
 obtain ⟨st, h3, h⟩ := Option.bind_eq_some_iff.1 h
 rw [impl_odd.mono _ _ _ h1, Option.bind_some, impl_numbers.mono _ _ _ h2, Option.bind_some, slices_Concat_int.mono _ _ _ h3, Option.bind_some]
 by_cases c : a0.length ≤ 55 ∧ (∀ t ∈ a0, goodT t = true) ∧ (∀ n ∈ st, 0 ≤ n ∧ n ≤ 9)
 case neg => rw [if_neg c] at h; cases h
 rw [if_pos c] at h ⊢
 by_cases c1 : a0 = [] ∧ st = []
 ·rw [if_pos c1] at h ⊢; exact h
 rw [if_neg c1] at h ⊢
 by_cases c2 : a0 ≠ [] ∧ st ≠ []
 ·rw [if_pos c2] at h ⊢; exact fwLoop_mono (fun l r hh => impl_groups.mono l k r hh) _ _ _ _ h
 ·rw [if_neg c2] at h; cases h
theorem C_pairI {W : World} {g : Nat} {A0 : Option Addr} {c0 : Nat} {l0 : List Int} {A1 : Option Addr} {c1 : Nat} {l1 : List Int} (h0 : W.cell? ⟨g, 0, none⟩ = some (.slice A0 l0.length c0)) (h1 : W.cell? ⟨g, 1, none⟩ = some (.slice A1 l1.length c1)) (hr0 : Kd.C (Kd.int .i64) W A0 l0.length l0) (hc0 : l0.length ≤ c0) (hr1 : Kd.C (Kd.int .i64) W A1 l1.length l1) (hc1 : l1.length ≤ c1) : Kd.C (Kd.slice 3 (Kd.int .i64)) W (some ⟨g, 0, none⟩) 2 [l0, l1] := by
 refine ⟨rfl, by simp [maxLen], fun _ => ⟨_, rfl, fun j y hj => ?_⟩⟩
 match j, hj with
 | 0, hj =>
  cases hj
  refine ⟨[.slice A0 l0.length c0], rfl, ⟨A0, c0, rfl, hc0, hr0⟩, fun i u hu => ?_⟩
  match i, hu with
  | 0, hu => cases hu; exact h0
 | 1, hj =>
  cases hj
  refine ⟨[.slice A1 l1.length c1], rfl, ⟨A1, c1, rfl, hc1, hr1⟩, fun i u hu => ?_⟩
  match i, hu with
  | 0, hu => cases hu; exact h1
theorem erase_first : ∀ (l : List S41) (i : Nat) (t : S41), l[i]? = some t → (∀ j, j < i → ∀ x, l[j]? = some x → x ≠ t) → l.eraseIdx i = l.erase t
 | [], i, t, h, _ => by simp at h
 | x :: l, 0, t, h, _ => by
  obtain rfl : x = t := by simpa using h
  rw [List.erase_cons_head]; rfl
 | x :: l, i + 1, t, h, hb => by
  have hx : x ≠ t := hb 0 (by omega) x rfl
  rw [List.erase_cons_tail (by simpa using hx), List.eraseIdx_cons_succ, erase_first l i t (by simpa using h) (fun j hj y hy => hb (j + 1) (by omega) y (by simpa using hy))]
theorem idx_loop (l : List S41) (hl : l.length ≤ 1000) (t : S41) : ∀ (d i k : Nat), i + d = l.length → d + 1 ≤ k → (∀ j, j < i → ∀ x, l[j]? = some x → x ≠ t) → ∃ r : Int, slices_Index_Tile.l0 k l (l.length : Int) (i : Int) t.f0 t.f1 = some r ∧ ((r = -1 ∧ t ∉ l) ∨ ∃ m : Nat, r = m ∧ m < l.length ∧ t ∈ l ∧ l.eraseIdx m = l.erase t) := by
 intro d
 induction d with
 | zero =>
  intro i k hi hk hb
  obtain ⟨k, rfl⟩ : ∃ m, k = m + 1 := ⟨k - 1, by omega⟩
  refine ⟨-1, by simp only [slices_Index_Tile.l0]; rw [if_neg (by omega)], .inl ⟨rfl, fun hm => ?_⟩⟩
  obtain ⟨j, hj⟩ := List.getElem?_of_mem hm
  have := (List.getElem?_eq_some_iff.1 hj).1
  exact hb j (by omega) t hj rfl
 | succ d ih =>
  intro i k hi hk hb
  obtain ⟨k, rfl⟩ : ∃ m, k = m + 1 := ⟨k - 1, by omega⟩
  obtain ⟨x, hx⟩ : ∃ x, l[i]? = some x := ⟨_, List.getElem?_eq_getElem (by omega)⟩
  have hrd : rd_T41 l (i : Int) = x := by
   show l.getD (i : Int).toNat _ = x
   rw [Int.toNat_natCast, List.getD_eq_getElem?_getD, hx]; rfl
  have hw : wrap64 ((i : Int) + 1) = ((i + 1 : Nat) : Int) := by unfold wrap64; omega
  by_cases c : t = x
  ·subst c
   refine ⟨(i : Int), ?_, .inr ⟨i, rfl, by omega, List.mem_of_getElem? hx, erase_first l i t hx hb⟩⟩
   simp only [slices_Index_Tile.l0]
   rw [if_pos (by omega), if_pos (by omega), if_pos (by omega), hrd, if_pos (by simp)]
  ·obtain ⟨r, h1, h2⟩ := ih (i + 1) k (by omega) (by omega) (fun j hj y hy => by
    by_cases e : j = i
    ·subst e; rw [hx] at hy; cases hy; exact fun e => c e.symm
    ·exact hb j (by omega) y hy)
   refine ⟨r, ?_, h2⟩
   simp only [slices_Index_Tile.l0]
   rw [if_pos (by omega), if_pos (by omega), if_pos (by omega), hrd, if_neg (fun e => c (by rw [Bool.and_eq_true, beq_iff_eq, beq_iff_eq] at e; cases t; cases x; simp only at e; rw [e.1, e.2])), hw]
   exact h1
theorem idxT (l : List S41) (hl : l.length ≤ 1000) (t : S41) : ∃ r : Int, slices_Index_Tile.f 2000 l t.f0 t.f1 = some r ∧ ((r = -1 ∧ t ∉ l) ∨ ∃ m : Nat, r = m ∧ m < l.length ∧ t ∈ l ∧ l.eraseIdx m = l.erase t) :=
 idx_loop l hl t l.length 0 2000 (by omega) (by omega) (fun j hj => absurd hj (Nat.not_lt_zero _))
theorem contI_loop (l : List Int) (hl : l.length ≤ 1000) (n : Int) : ∀ (d i k : Nat), i + d = l.length → d + 1 ≤ k → ∃ r : Int, slices_Index_int.l0 k l n (l.length : Int) (i : Int) = some r ∧ (r ≥ 0 ↔ n ∈ l.drop i) := by
 intro d
 induction d with
 | zero =>
  intro i k hi hk
  obtain ⟨k, rfl⟩ : ∃ m, k = m + 1 := ⟨k - 1, by omega⟩
  refine ⟨-1, by simp only [slices_Index_int.l0]; rw [if_neg (by omega)], ?_⟩
  rw [List.drop_of_length_le (by omega)]; simp
 | succ d ih =>
  intro i k hi hk
  obtain ⟨k, rfl⟩ : ∃ m, k = m + 1 := ⟨k - 1, by omega⟩
  obtain ⟨r, h1, h2⟩ := ih (i + 1) k (by omega) (by omega)
  have hil : i < l.length := by omega
  have hrd : rd l (i : Int) = l[i] := by
   show l.getD (i : Int).toNat _ = _
   rw [Int.toNat_natCast, List.getD_eq_getElem?_getD, List.getElem?_eq_getElem hil]; rfl
  have hw : wrap64 ((i : Int) + 1) = ((i + 1 : Nat) : Int) := by unfold wrap64; omega
  by_cases c : n = l[i]
  ·refine ⟨(i : Int), ?_, ?_⟩
   ·simp only [slices_Index_int.l0]
    rw [if_pos (by omega), if_pos (by omega), if_pos (by omega), hrd, if_pos c]
   ·rw [List.drop_eq_getElem_cons hil]
    exact ⟨fun _ => by rw [← c]; exact List.mem_cons_self, fun _ => by omega⟩
  ·refine ⟨r, ?_, ?_⟩
   ·simp only [slices_Index_int.l0]
    rw [if_pos (by omega), if_pos (by omega), if_pos (by omega), hrd, if_neg c, hw]
    exact h1
   ·rw [h2, List.drop_eq_getElem_cons hil, List.mem_cons]
    exact ⟨.inr, fun e => e.resolve_left c⟩
theorem contI_k (l : List Int) (hl : l.length ≤ 1000) (n : Int) : slices_Contains_int.f 2000 l n = some (decide (n ∈ l)) := by
 obtain ⟨r, h1, h2⟩ := contI_loop l hl n l.length 0 2000 (by omega) (by omega)
 have h3 : slices_Index_int.f 2000 l n = some r := h1
 unfold slices_Contains_int.f
 rw [h3, Option.bind_some]
 congr 1
 rw [decide_eq_decide, h2, List.drop_zero]
/-- An own row out of a literal's block. -/
theorem rowI_lit {w : World} {g : Nat} {x : Int} (h : w.heap[g]? = some (.cells #[.int .i64 x] 3 (0, 0))) : rowI w g 1 [x] := by
 refine ⟨_, h, rfl, Nat.le_refl _, fun i y hy => ?_⟩
 match i, hy with
 | 0, hy => cases hy; rfl
theorem groups_le {k : Nat} {l : List S41} {gs : List (List Int)} (h : impl_groups.f k l = some gs) : ∀ g ∈ gs, g.length ≤ 1000 := by
 unfold impl_groups.f at h
 by_cases c : l.length ≤ 55 ∧ (∀ t ∈ l, goodT t = true)
 case neg => rw [if_neg c] at h; cases h
 rw [if_pos c] at h
 obtain ⟨there, _, h⟩ := Option.bind_eq_some_iff.1 h
 by_cases c2 : (∀ n ∈ there, 0 ≤ n ∧ n ≤ 9) ∧ there.length ≤ 1000
 case neg => rw [if_neg c2] at h; cases h
 rw [if_pos c2] at h
 obtain rfl := Option.some.inj h
 intro g hg
 unfold groupsN groupsP at hg
 obtain ⟨a, _, rfl⟩ := List.mem_map.1 (List.mem_filter.1 hg).1
 exact Nat.le_trans (List.length_filter_le _ _) c2.2
theorem lt_heapI {W : World} {g : Nat} {o : Obj} (h : W.heap[g]? = some o) : g < W.heap.size := (Array.getElem?_eq_some_iff.1 h).1
theorem C_cellI {W : World} {A : Option Addr} {l : List Int} (h : Kd.C (Kd.int .i64) W A l.length l) (i : Nat) (x : Int) (hx : l[i]? = some x) : ∃ ad, A = some ad ∧ W.cell? (ad.add i) = some (.int .i64 x) := by
 have hlt := (List.getElem?_eq_some_iff.1 hx).1
 obtain ⟨ad, c, e, hs, hK, hc⟩ := ReadsRow.get_ h (0 : Int) (i : Int) (by omega) (by omega)
 have h2 := hc 0 (.int .i64 (l.getD (i : Int).toNat 0)) (by rw [show c = [.int .i64 (l.getD (i : Int).toNat 0)] from hK]; rfl)
 have e2 : l.getD (i : Int).toNat 0 = x := by rw [Int.toNat_natCast, List.getD_eq_getElem?_getD, hx]; rfl
 rw [e2] at h2
 exact ⟨ad, e, by simpa [show (Kd.int .i64).sz = 1 from rfl] using h2⟩
/-- The numbers laid so far: an own row, or, at the begin, the first number of another row, cut to its own room. -/
def OutFw (W : World) (base : Nat) (A : Option Addr) (n c : Nat) (out : List Int) (left : List S41) : Prop :=
 n = out.length ∧ Kd.C (Kd.int .i64) W A out.length out ∧ (Kd.R (Kd.int .i64) 3 W base (fun _ => True) (.slice A n c) out ∨ (c = 1 ∧ n = 1 ∧ left ≠ [] ∧ ∃ g, A = some ⟨g, 0, none⟩))
theorem OutFw.below {W W' : World} {base : Nat} {A : Option Addr} {n c : Nat} {out : List Int} {left : List S41} (h : OutFw W base A n c out left) (hb : Below W.heap.size W W') : OutFw W' base A n c out left :=
 ⟨h.1, Kd.C_below h.2.1 hb, h.2.2.imp (fun h => Kd.R_below h hb) id⟩
theorem OutFw.own {W : World} {base : Nat} {v : Value} {out : List Int} {left : List S41} (h : Kd.R (Kd.int .i64) 3 W base (fun _ => True) v out) : ∃ A c, v = .slice A out.length c ∧ OutFw W base A out.length c out left := by
 obtain ⟨A, c, rfl, _, hC⟩ := Kd.R_reads h
 exact ⟨A, c, rfl, rfl, hC, .inl h⟩
theorem below_of_grown {W W' : World} (h : W.grownBy W' none) : Below W.heap.size W W' := ⟨h.os, h.tape, h.output, h.size, fun k hk => h.block k hk (by simp)⟩
theorem OutFw.append {P : Program} {rest : List Oper} {opsA : Array Oper} {o : Oper} {a : Act} {Q : Exit → Act → World → Prop} {w0 W : World} (base : Nat) (hgd : o.guard = none) (s x : Operand) (hu : P.underlying 24 = some (.slice 3)) (hinfo : (P.info? 3).map (fun i => (i.zero, i.size, i.bytes)) = some (some (.int .i64 0), 1, 8))
  (ho : o.op = .call { callee := .builtin .append, args := #[s, x], argTypes := #[24, 24] }) (A : Option Addr) (n c : Nat) (out : List Int) (left : List S41) (p : Int)
  (hs : a.eval s = .slice A n c) (hx : a.eval x = .slice (some ⟨W.heap.size, 0, none⟩) 1 1) (HO : OutFw W base A n c out left) (HB : Below base w0 W) (hbase : base ≤ W.heap.size) (hl : out.length ≤ 1000)
  (h : ∀ v1 w1 v, Kd.R (Kd.int .i64) 3 w1 base (fun _ => True) v1 (out ++ [p]) → Below base w0 w1 → W.grownBy w1 (v : Value).ownBlock → (∀ k, v.ownBlock = some k → ∃ cells, W.heap[k]? = some (.cells cells 3 (0, 0))) → wpList P opsA Q rest (a.put o.dst v1) w1) :
  wpList P opsA Q (o :: rest) a (W.alloc (.cells #[.int .i64 p] 3)) := by
 obtain ⟨rfl, hC, hR | ⟨rfl, h1, hne, g, rfl⟩⟩ := HO
 ·exact Kd.R_append (Kd.int .i64) (w0 := w0) base hgd s x 24 3 (.int .i64 0) 8 ho hu hinfo rfl (by decide) (by omega) (.slice A out.length c) out p [.int .i64 p] (fun _ => True) (fun _ => False) hs hx rfl (fun _ hk => hk.elim) (fun _ _ => trivial) hR HB hbase (by omega) (fun v1 w1 a1 a2 a3 _ => h v1 w1 _ a1 a2 a3 (Kd.R_typed hR))
 ·obtain ⟨x0, rfl⟩ : ∃ x0, out = [x0] := List.length_eq_one_iff.1 h1
  obtain ⟨i, hi, hz0, hz1, hz2⟩ := info_parts hinfo
  obtain ⟨ad, e, hc0⟩ := C_cellI hC 0 x0 rfl
  cases e
  have hc0' : W.cell? ⟨g, 0, none⟩ = some (.int .i64 x0) := hc0
  refine wpList_append_arg _ hgd s x 24 ho 3 i (.int .i64 0) 1 8 hu hi hz0 hz1 hz2 rfl (by omega) g 0 1 1 [.int .i64 x0] hs rfl ?_ ⟨W.heap.size, 0, none⟩ 1 1 [.int .i64 p] hx rfl ?_ ?_ ?_ (by simp [maxLen]) (by omega) ?_ ?_
  ·intro j u hj
   match j, hj with
   | 0, hj => cases hj; exact Lib.cell?_alloc_some _ hc0'
  ·intro j u hj
   match j, hj with
   | 0, hj =>
    cases hj
    show (W.alloc _).cell? ((⟨W.heap.size, 0, none⟩ : Addr).add 0) = _
    rw [show ((⟨W.heap.size, 0, none⟩ : Addr).add 0) = ⟨W.heap.size, 0, none⟩ from rfl]
    simp only [World.cell?, heap_alloc_new]; rfl
  ·intro u hu; rw [List.mem_singleton.1 hu]; rfl
  ·intro h2; omega
  ·intro h2; omega
  ·intro _ v1 w1 hown hg
   have hb := below_of_grown hg
   have hal : Below W.heap.size W (W.alloc (.cells #[.int .i64 p] 3)) := (Below.refl _ _).alloc (Nat.le_refl _) _
   have hW1 : Below W.heap.size W w1 := below_then hal hal.size hb
   refine h v1 w1 (.slice none 0 0) (Kd.R_lower (Kd.R_of_own (enc := Value.int .i64) (h1 := fun _ => rfl) hown (fun _ _ => trivial)) (Nat.le_trans hbase (by simp))) (below_then HB hbase hW1) ⟨hW1.os, hW1.tape, hW1.output, hW1.size, fun k hk _ => hW1.block k hk⟩ (fun k hk => by simp [Value.ownBlock] at hk)
set_option maxHeartbeats 8000000 in
set_option maxRecDepth 100000 in
theorem impl_firstWhole.calls (k : Nat) (A0 : Option Addr) (c0 : Nat) (l0 : List S41) (r : List Int) (w : World) (hr0 : Kd.C k41 w A0 l0.length l0) (hc0 : l0.length ≤ c0) (h : impl_firstWhole.f k l0 = some r) :
  Calls Try.prog 27 #[.slice A0 l0.length c0] w fun e w' => ∃ v0_ : Value, e = .returned (v0_) ∧ Kd.R (Kd.int .i64) 3 w' w.heap.size (fun _ => True) v0_ r ∧ Below w.heap.size w w' := by
 unfold impl_firstWhole.f at h
 obtain ⟨o, h1, h⟩ := Option.bind_eq_some_iff.1 h
 obtain ⟨ns, h2, h⟩ := Option.bind_eq_some_iff.1 h
 obtain ⟨st, h3, h⟩ := Option.bind_eq_some_iff.1 h
 by_cases c : l0.length ≤ 55 ∧ (∀ t ∈ l0, goodT t = true) ∧ (∀ n ∈ st, 0 ≤ n ∧ n ≤ 9)
 case neg => rw [if_neg c] at h; cases h
 rw [if_pos c] at h
 obtain ⟨hl55, hgood, hnums⟩ := c
 have HCL : Aside0 (∀ W, Below w.heap.size w W → Calls Try.prog 43 #[.slice A0 l0.length c0] W fun e w' => ∃ v0_ : Value, e = .returned (v0_) ∧ Kd.R k41 41 w' W.heap.size (fun _ => True) v0_ l0 ∧ Below W.heap.size W w') :=
  ⟨fun W hb => slices_Clone_Tile.calls A0 c0 l0 l0 W (Kd.C_below hr0 hb) hc0 (by unfold slices_Clone_Tile.f; rw [if_pos (by omega)])⟩
 have HOD : Aside0 (∀ W, Below w.heap.size w W → Calls Try.prog 42 #[.slice A0 l0.length c0] W fun e w' => ∃ v0_ : Value, e = .returned (v0_) ∧ Kd.R (Kd.int .i64) 3 w' W.heap.size (fun _ => True) v0_ o ∧ Below W.heap.size W w') :=
  ⟨fun W hb => impl_odd.calls k A0 c0 l0 o W (Kd.C_below hr0 hb) hc0 h1⟩
 have HNU : Aside0 (∀ W, Below w.heap.size w W → Calls Try.prog 45 #[.slice A0 l0.length c0] W fun e w' => ∃ v0_ : Value, e = .returned (v0_) ∧ Kd.R (Kd.int .i64) 3 w' W.heap.size (fun _ => True) v0_ ns ∧ Below W.heap.size W w') :=
  ⟨fun W hb => impl_numbers.calls k A0 c0 l0 ns W (Kd.C_below hr0 hb) hc0 h2⟩
 have HCC : Aside0 (∀ (W : World) (ob : Obj) (Ao : Option Addr) (co : Nat) (An : Option Addr) (cn B B' : Nat), Kd.R (Kd.int .i64) 3 W B (fun _ => True) (.slice Ao o.length co) o → Kd.R (Kd.int .i64) 3 W B' (fun _ => True) (.slice An ns.length cn) ns → (W.alloc ob).cell? ⟨W.heap.size, 0, none⟩ = some (.slice Ao o.length co) → (W.alloc ob).cell? ⟨W.heap.size, 1, none⟩ = some (.slice An ns.length cn) → Calls Try.prog 44 #[.slice (some ⟨W.heap.size, 0, none⟩) 2 2] (W.alloc ob) fun e w' => ∃ v0_ : Value, e = .returned (v0_) ∧ Kd.R (Kd.int .i64) 3 w' (W.alloc ob).heap.size (fun _ => True) v0_ st ∧ Below (W.alloc ob).heap.size (W.alloc ob) w') :=
  ⟨fun W ob Ao co An cn B B' ho hn e0 e1 => by
   obtain ⟨_, hco, hCo⟩ := Kd.R_reads' (rA ho ob)
   obtain ⟨_, hcn, hCn⟩ := Kd.R_reads' (rA hn ob)
   exact slices_Concat_int.calls k (some ⟨W.heap.size, 0, none⟩) 2 [o, ns] st (W.alloc ob) (C_pairI e0 e1 hCo hco hCn hcn) (by simp) h3⟩
 clear hr0 h1 h2 h3
 by_cases c1 : l0 = [] ∧ st = []
 ·rw [if_pos c1] at h
  obtain rfl := Option.some.inj h
  obtain ⟨rfl, rfl⟩ := c1
  clear h hl55 hgood hnums
  go_enter Try.func27, Try.ntmps27
  go_wp2_with (first
  | (go_at_call 43; refine (HCL.out _ (Below.refl _ _)).mono ?_; rintro e w1 ⟨v1, rfl, ho1, hb1⟩; obtain ⟨A1, c1, rfl⟩ := Kd.R_slice ho1; have HB1 := aM hb1; clear ho1 hb1)
   | (go_at_call 42; refine (HOD.out _ (HB1.out.alloc HB1.out.size _)).mono ?_; rintro e w2 ⟨v2, rfl, ho2, hb2⟩; obtain ⟨A2, c2, rfl⟩ := Kd.R_slice ho2; have hx2 : w2.heap[w1.heap.size]? = some (.cells #[.int .i64 0] 3 (0, 0)) := (hb2.block _ (by simp)).trans (heap_alloc_new _ _); have HX2 := aM hx2; have HB2 := aM (below_then (HB1.out.alloc HB1.out.size _) (Nat.le_trans HB1.out.size (by simp)) hb2); have HO2 := aM ho2; clear ho2 hb2 hx2)
   | (go_at_call 45; refine (HNU.out _ HB2.out).mono ?_; rintro e w3 ⟨v3, rfl, ho3, hb3⟩; obtain ⟨A3, c3, rfl⟩ := Kd.R_slice ho3; have HX3 := aM ((hb3.block _ (lt_heapI HX2.out)).trans HX2.out); have HO23 := aM (Kd.R_below HO2.out hb3); have HB3 := aM (below_then HB2.out HB2.out.size hb3); have HO3 := aM ho3; clear ho3 hb3)
   | (go_at_call 44; refine (HCC.out _ _ _ _ _ _ _ _ HO23.out HO3.out (by simp only [World.cell?, heap_alloc_new]; rfl) (by simp only [World.cell?, heap_alloc_new]; rfl)).mono ?_; rintro e w4 ⟨v4, rfl, ho4, hb4⟩; obtain ⟨A4, c4, rfl⟩ := Kd.R_slice ho4; have hx4 : w4.heap[w1.heap.size]? = some (.cells #[.int .i64 0] 3 (0, 0)) := (hb4.block _ (by have := lt_heapI HX3.out; simp; omega)).trans ((heap_alloc_old _ _ (lt_heapI HX3.out)).trans HX3.out); have HX4 := aM hx4; have HB4 := aM (below_then (HB3.out.alloc HB3.out.size _) (Nat.le_trans HB3.out.size (by simp)) hb4); clear ho4 hb4 hx4))
  go_loopg [3, 4] 0 (fun gg s3 s4 wx => s3 = .slice A1 0 c1 ∧ s4 = .slice (some ⟨w1.heap.size, 0, none⟩) 1 1 ∧ Aside0 (wx.heap[w1.heap.size]? = some (.cells #[.int .i64 0] 3 (0, 0))) ∧ Aside0 (Below w.heap.size w wx))
  case atStart => exact ⟨rfl, rfl, HX4, HB4⟩
  case round =>
   obtain ⟨rfl, rfl, HX5, HB5⟩ := hrel
   go_wp2
   go_ret
   exact ⟨_, rfl, R_of_rowI (rowI_lit HX5.out) (by have := HB1.out.size; omega) trivial (by simp [maxLen]), HB5.out⟩
 rw [if_neg c1] at h
 by_cases c2 : l0 ≠ [] ∧ st ≠ []
 case neg => rw [if_neg c2] at h; cases h
 rw [if_pos c2] at h
 obtain ⟨hne, hst⟩ := c2
 obtain ⟨s0, hs0⟩ : ∃ s0, st[0]? = some s0 := by cases st with | nil => exact absurd rfl hst | cons a b => exact ⟨a, rfl⟩
 have hs09 := hnums s0 (List.mem_of_getElem? hs0)
 have hhd : st.headD 0 = s0 := by cases st with | nil => exact absurd rfl hst | cons a b => simpa using hs0
 rw [hhd] at h
 have HL := aM h
 have hsl : 0 < st.length := List.length_pos_iff.2 hst
 have hslz : (st.length : Int) > 0 := by omega
 have HNE := aM hne
 have HS0 := aM hs0
 clear h hst hnums hhd c1 hne hs0
 go_enter Try.func27, Try.ntmps27
 go_wp2_with (first
  | (go_at_call 43; refine (HCL.out _ (Below.refl _ _)).mono ?_; rintro e w1 ⟨v1, rfl, ho1, hb1⟩; obtain ⟨A1, c1, rfl⟩ := Kd.R_slice ho1; have HB1 := aM hb1; have HO1 := aM ho1; clear ho1 hb1)
  | (go_at_call 42; refine (HOD.out _ (HB1.out.alloc HB1.out.size _)).mono ?_; rintro e w2 ⟨v2, rfl, ho2, hb2⟩; obtain ⟨A2, c2, rfl⟩ := Kd.R_slice ho2; have HO12 := aM (Kd.R_below (rA HO1.out _) hb2); have HB2 := aM (below_then (HB1.out.alloc HB1.out.size _) (Nat.le_trans HB1.out.size (by simp)) hb2); have HO2 := aM ho2; clear ho2 hb2)
  | (go_at_call 45; refine (HNU.out _ HB2.out).mono ?_; rintro e w3 ⟨v3, rfl, ho3, hb3⟩; obtain ⟨A3, c3, rfl⟩ := Kd.R_slice ho3; have HO13 := aM (Kd.R_below HO12.out hb3); have HO23 := aM (Kd.R_below HO2.out hb3); have HB3 := aM (below_then HB2.out HB2.out.size hb3); have HO3 := aM ho3; clear ho3 hb3)
  | (go_at_call 44; refine (HCC.out _ _ _ _ _ _ _ _ HO23.out HO3.out (by simp only [World.cell?, heap_alloc_new]; rfl) (by simp only [World.cell?, heap_alloc_new]; rfl)).mono ?_; rintro e w4 ⟨v4, rfl, ho4, hb4⟩; obtain ⟨A4, c4, rfl⟩ := Kd.R_slice ho4; have HO14 := aM (Kd.R_lower (Kd.R_below (rA HO13.out _) hb4) (Nat.le_refl _)); have HO4 := aM ho4; have hc4 : 1 ≤ c4 := Nat.le_trans hsl (Kd.R_reads' ho4).2.1; have HB4 := aM (below_then (HB3.out.alloc HB3.out.size _) (Nat.le_trans HB3.out.size (by simp)) hb4); clear ho4 hb4))
 have hC4 := (Kd.R_reads' HO4.out).2.2
 obtain ⟨g4, hA4⟩ : ∃ g4, A4 = some ⟨g4, 0, none⟩ := by
  obtain ⟨g4, cap, e, _⟩ := Kd.R_form HO4.out hsl
  cases e; exact ⟨g4, rfl⟩
 have hC41 : Kd.C (Kd.int .i64) w4 A4 [s0].length [s0] := by
  have h1 := Kd.C_take (m := 1) hC4 (by omega)
  have e1 : st.take 1 = [s0] := by
   have := HS0.out
   cases st with
   | nil => simp at this
   | cons a b => simp at this; simp [this]
  rw [e1] at h1; exact h1
 have HOUT := aM (show OutFw w4 w.heap.size A4 1 1 [s0] l0 from ⟨rfl, hC41, .inr ⟨rfl, rfl, HNE.out, g4, hA4⟩⟩)
 have HLEFT := aM (Kd.R_lower HO14.out (Nat.le_refl w.heap.size))
 have HBND := aM (show l0.length ≤ 55 ∧ (∀ t ∈ l0, goodT t = true) ∧ (0 ≤ s0 ∧ s0 ≤ 9) from ⟨hl55, hgood, hs09⟩)
 clear hC4 hC41 hA4 hgood
 go_loopg [3, 4] l0.length (fun gg s3 s4 wx => ∃ (left : List S41) (out : List Int) (f q : Nat) (Al : Option Addr) (cl : Nat) (Ao : Option Addr) (co : Nat), s3 = .slice Al left.length cl ∧ s4 = .slice Ao (q + 1) co ∧ left.length ≤ gg ∧ Aside0 (left.length ≤ 55 ∧ (∀ t ∈ left, goodT t = true) ∧ out.length + left.length ≤ 56) ∧ Aside0 (fwLoop (impl_groups.f k) f left out = some r) ∧ Aside0 (Kd.R k41 41 wx w.heap.size (fun _ => True) (.slice Al left.length cl) left) ∧ Aside0 (OutFw wx w.heap.size Ao (q + 1) co out left) ∧ Aside0 (Below w.heap.size w wx))
 case atStart => exact ⟨l0, [s0], k, 0, A1, c1, A4, 1, rfl, rfl, Nat.le_refl _, ⟨HBND.out.1, HBND.out.2.1, by have := HBND.out.1; simp; omega⟩, HL, HLEFT, HOUT, HB4⟩
 case round =>
  clear HOUT HLEFT HO14 HO4 HB4 HB3 HB2 HB1 HO1 HO12 HO13 HO2 HO23 HO3 HCC HNU HOD HCL HS0 HNE HL HBND hs09 hc4
  obtain ⟨left, out, f, q, Al, cl, Ao, co, rfl, rfl, hgg, HBD, HF, HRL, HOU, HB⟩ := hrel
  by_cases hz : left.length = 0
  ·have hz2 : left = [] := List.length_eq_zero_iff.1 hz
   subst hz2
   have HF2 : out = r := by
    cases f with
    | zero => cases HF.out
    | succ f => have := HF.out; unfold fwLoop at this; rw [if_pos rfl] at this; exact Option.some.inj this
   have HRES : Aside0 (Kd.R (Kd.int .i64) 3 wr w.heap.size (fun _ => True) (.slice Ao (q + 1) co) r) := ⟨by
    rcases HOU.out.2.2 with h | ⟨_, _, h, _⟩
    ·rw [← HF2]; exact h
    ·exact absurd rfl h⟩
   clear HF2
   go_wp2
   go_ret
   exact ⟨_, rfl, HRES.out, HB.out⟩
  ·have hpos : 0 < left.length := by omega
   have hposz : (left.length : Int) > 0 := by omega
   have hql := HOU.out.1
   obtain ⟨la, hla⟩ : ∃ x, out[q]? = some x := ⟨_, List.getElem?_eq_getElem (by omega)⟩
   have hlast : out.getLast?.getD 0 = la := by rw [List.getLast?_eq_getElem?, ← hql, Nat.add_sub_cancel, hla]; rfl
   have hne : left ≠ [] := fun e => hz (by rw [e]; rfl)
   obtain ⟨f', m, rest, hscan, hnext⟩ : ∃ f' m rest, fwScan (impl_groups.f k) left la 10 0 = some (some (m, rest)) ∧ fwLoop (impl_groups.f k) f' rest (out ++ [m]) = some r := by
    cases f with
    | zero => cases HF.out
    | succ f =>
     have := HF.out
     unfold fwLoop at this
     rw [if_neg hne, hlast] at this
     obtain ⟨oo, e1, e2⟩ := Option.bind_eq_some_iff.1 this
     match oo, e2 with
     | some (m, rest), e2 => exact ⟨f, m, rest, e1, e2⟩
   have HNX := aM hnext
   have HSC := aM hscan
   obtain ⟨ad, hAd, hcell⟩ := C_cellI HOU.out.2.1 q la hla
   subst hAd
   have HLA := aM (And.intro hla hql)
   have hq60 : q ≤ 60 := by have := HBD.out.2.2; omega
   clear hql hla hlast hne hnext hscan HF hz hcell
   go_wp2
   go_loopg [3, 4, 27] 10 (fun gg t3 t4 t27 wy => ∃ n : Nat, t3 = .slice Al left.length cl ∧ t4 = .slice (some ad) (q + 1) co ∧ t27 = .int .i64 n ∧ n ≤ 10 ∧ 10 - n ≤ gg ∧ Aside0 (fwScan (impl_groups.f k) left la (10 - n) n = some (some (m, rest))) ∧ Aside0 (Kd.R k41 41 wy w.heap.size (fun _ => True) (.slice Al left.length cl) left) ∧ Aside0 (OutFw wy w.heap.size (some ad) (q + 1) co out left) ∧ Aside0 (Below w.heap.size w wy))
   case atStart => exact ⟨0, rfl, rfl, rfl, by omega, Nat.le_refl _, HSC, HRL, HOU, HB⟩
   case round =>
    clear HRL HOU HB HSC
    obtain ⟨n, rfl, rfl, rfl, hn10, hg2, HS, HRL2, HOU2, HBB⟩ := hrel
    have HWS := aM HBB.out.size
    by_cases hlt : n < 10
    ·have hltz : (n : Int) < 10 := by omega
     obtain ⟨d, hd⟩ : ∃ d, 10 - n = d + 1 := ⟨9 - n, by omega⟩
     have hd2 : 10 - (n + 1) = d := by rw [Nat.sub_add_eq, hd]; rfl
     obtain ⟨ad', e', hcell⟩ := C_cellI HOU2.out.2.1 q la HLA.out.1
     cases e'
     obtain ⟨rr, hi1, hi2⟩ := idxT left (by have := HBD.out.1; omega) (fwTile la n)
     have HT : Aside0 (∀ W, Calls Try.prog 47 #[.int .i64 la, .int .i64 (n : Int)] W fun e w' => e = .returned (.agg #[.int .i64 (mn la n), .int .i64 (mx la n)]) ∧ Below W.heap.size W w') := ⟨fun W => impl_tile.calls la n _ _ W rfl⟩
     have HIX : Aside0 (∀ W, Below wr.heap.size wr W → Calls Try.prog 46 #[.slice Al left.length cl, .agg #[.int .i64 (mn la n), .int .i64 (mx la n)]] W fun e w' => e = .returned (.int .i64 rr) ∧ Below W.heap.size W w') :=
      ⟨fun W hb => by obtain ⟨_, hc, hC⟩ := Kd.R_reads' (Kd.R_below HRL2.out hb); exact slices_Index_Tile.calls 2000 Al cl left _ _ rr W hC hc hi1⟩
     have hsc := HS.out
     rw [hd] at hsc
     unfold fwScan at hsc
     rcases hi2 with ⟨rfl, hnm⟩ | ⟨mm, rfl, hml, hmem, her⟩
     ·rw [if_neg hnm] at hsc
      have HSN : Aside0 (fwScan (impl_groups.f k) left la (10 - (n + 1)) (n + 1) = some (some (m, rest))) := ⟨by rw [hd2]; exact hsc⟩
      clear hsc hd hd2 hnm hi1 HS
      go_wp2_with (first | (go_at_call 47; refine (HT.out _).mono ?_; rintro e w1 ⟨rfl, hb1⟩; have HB1 := aM hb1; clear hb1) | (go_at_call 46; refine (HIX.out _ HB1.out).mono ?_; rintro e w2 ⟨rfl, hb2⟩; have HB2 := aM (below_then HB1.out HB1.out.size hb2); clear hb2))
      go_roundg (10 - (n + 1))
      case measure => omega
      case rel => exact ⟨n + 1, rfl, rfl, by go_num, by omega, Nat.le_refl _, HSN, ⟨Kd.R_below HRL2.out HB2.out⟩, ⟨HOU2.out.below HB2.out⟩, ⟨below_then HBB.out HBB.out.size HB2.out⟩⟩
     ·rw [if_pos hmem] at hsc
      obtain ⟨gs, hg1, hsc⟩ := Option.bind_eq_some_iff.1 hsc
      have hmz : ¬ (mm : Int) < 0 := by omega
      have hm55 : mm ≤ 55 := by have := HBD.out.1; omega
      obtain ⟨rs, hrs⟩ : ∃ x, x = left.erase (fwTile la n) := ⟨_, rfl⟩
      rw [← hrs] at hsc hg1 her
      have HRS := aM (show rs = left.erase (fwTile la n) ∧ rs.length + 1 = left.length ∧ ∀ t ∈ rs, goodT t = true from ⟨hrs, by rw [hrs, List.length_erase_of_mem hmem]; omega, fun t ht => HBD.out.2.1 t (List.mem_of_mem_erase (hrs ▸ ht))⟩)
      have HCL : Aside0 (∀ W, Below wr.heap.size wr W → Calls Try.prog 43 #[.slice Al left.length cl] W fun e w' => ∃ v0_ : Value, e = .returned (v0_) ∧ Kd.R k41 41 w' W.heap.size (fun _ => True) v0_ left ∧ Below W.heap.size W w') :=
       ⟨fun W hb => by obtain ⟨_, hc, hC⟩ := Kd.R_reads' (Kd.R_below HRL2.out hb); exact slices_Clone_Tile.calls Al cl left left W hC hc (by unfold slices_Clone_Tile.f; rw [if_pos (by have := HBD.out.1; omega)])⟩
      have HDE : Aside0 (∀ (W : World) (B : Nat) (v : Value), B ≤ W.heap.size → Kd.R k41 41 W B (fun _ => True) v left → Calls Try.prog 48 #[v, .int .i64 (mm : Int), .int .i64 ((mm : Int) + 1)] W fun e w' => ∃ v', e = .returned v' ∧ Kd.R k41 41 w' B (fun _ => True) v' rs ∧ Below B W w') :=
       ⟨fun W B v hB ho => by rw [← her]; exact slices_Delete_Tile.gcalls B (fun _ => True) v left mm W hB ho hml⟩
      have HGR : Aside0 (∀ (W : World) (A : Option Addr) (c : Nat), Kd.R k41 41 W w.heap.size (fun _ => True) (.slice A rs.length c) rs → Calls Try.prog 41 #[.slice A rs.length c] W fun e w' => ∃ v0_ : Value, e = .returned (v0_) ∧ Kd.S (Kd.slice 3 (Kd.int .i64)) 24 w' W.heap.size (fun _ => True) v0_ gs ∧ Below W.heap.size W w') :=
       ⟨fun W A c ho => by obtain ⟨_, hc, hC⟩ := Kd.R_reads' ho; exact impl_groups.calls k A c rs gs W hC hc hg1⟩
      have HG9 : Aside0 (∀ g ∈ gs, g.length ≤ 1000) := ⟨groups_le hg1⟩
      by_cases ct : rs = [] ∨ (gs.length = 1 ∧ (n : Int) ∈ gs.getD 0 [])
      ·rw [if_pos ct] at hsc
       obtain ⟨rfl, rfl⟩ := Prod.mk.inj (Option.some.inj (Option.some.inj hsc))
       have HNXT := HNX
       clear hsc hd hd2 hmem her hi1 hrs HS HNX hg1
       by_cases hr0 : rs.length = 0
       ·have hr0z : (rs.length : Int) = 0 := by omega
        clear ct hr0
        go_wp2_with (first | (go_at_call 47; refine (HT.out _).mono ?_; rintro e w1 ⟨rfl, hb1⟩; have HB1 := aM hb1; clear hb1) | (go_at_call 46; refine (HIX.out _ HB1.out).mono ?_; rintro e w2 ⟨rfl, hb2⟩; have HB2 := aM (below_then HB1.out HB1.out.size hb2); clear hb2) | (go_at_call 43; refine (HCL.out _ HB2.out).mono ?_; rintro e w3 ⟨v3, rfl, ho3, hb3⟩; obtain ⟨A3, c3, rfl⟩ := Kd.R_slice ho3; have HO3 := aM ho3; have HB3 := aM hb3; clear ho3 hb3) | (go_at_call 48; refine (HDE.out _ _ _ HB3.out.size HO3.out).mono ?_; rintro e w4 ⟨v4, rfl, ho4, hb4⟩; obtain ⟨A4, c4, rfl⟩ := Kd.R_slice ho4; have HB4 := aM (HB2.out.trans ((HB3.out.trans hb4).mono HB2.out.size)); have HO4 := aM (Kd.R_lower ho4 (Nat.le_trans HWS.out HB2.out.size)); clear ho4 hb4) | (go_at_call 41; refine (HGR.out _ _ _ HO4.out).mono ?_; rintro e w5 ⟨v5, rfl, ho5, hb5⟩; obtain ⟨A5, c5, rfl⟩ := Kd.S_slice ho5; have HO5 := aM ho5; have HO45 := aM (Kd.R_below HO4.out hb5); have HB5 := aM (below_then HB4.out HB4.out.size hb5); clear ho5 hb5) | ((with_reducible refine gate_builtin (b := .append) (xs := #[.tmp 65, .tmp 67]) rfl ?_); at_builtin; refine OutFw.append (w0 := w) w.heap.size rfl (.tmp 65) (.tmp 67) Try.underlying24 info3 rfl (some ad) (q + 1) co out left (n : Int) rfl rfl (HOU2.out.below HB5.out) (below_then HBB.out HBB.out.size HB5.out) (Nat.le_trans HWS.out HB5.out.size) (by have := HBD.out.2.2; omega) ?_; intro v7 w7 vv ho7 hb7 hg7 hty7; obtain ⟨A7, c7, rfl, hou7⟩ := OutFw.own (left := rs) ho7; have HOU7 := aM hou7; have HB7 := aM hb7; have HR7 := aM (Kd.R_over' HO45.out hty7 (by decide) hg7); clear ho7 hb7 hg7 hty7 hou7))
        go_roundg rs.length
        case measure => have := HRS.out.2.1; omega
        case rel =>
         have hlen : (out ++ [(n : Int)]).length = q + 1 + 1 := by rw [List.length_append, List.length_singleton, ← HLA.out.2]
         rw [hlen] at HOU7
         exact ⟨rs, out ++ [(n : Int)], f', q + 1, A4, c4, A7, c7, rfl, by first | rw [hlen] | rw [← HLA.out.2], Nat.le_refl _, ⟨by have := HRS.out.2.1; have := HBD.out.1; omega, HRS.out.2.2, by rw [hlen]; have := HRS.out.2.1; have h1 := HBD.out.2.2; have := HLA.out.2; omega⟩, HNXT, HR7, HOU7, HB7⟩
       ·have hr0z : ¬ (rs.length : Int) = 0 := by omega
        obtain ⟨hg1', hmg⟩ := ct.resolve_left (fun e => hr0 (by rw [e]; rfl))
        obtain ⟨g0, rfl⟩ := List.length_eq_one_iff.1 hg1'
        have hmg : (n : Int) ∈ g0 := hmg
        have hgl : g0.length ≤ 1000 := HG9.out g0 List.mem_cons_self
        have HCT : Aside0 (∀ (W : World) (A : Option Addr) (c : Nat), Kd.C (Kd.int .i64) W A g0.length g0 → g0.length ≤ c → Calls Try.prog 49 #[.slice A g0.length c, .int .i64 (n : Int)] W fun e w' => e = .returned (.bool (decide ((n : Int) ∈ g0))) ∧ Drawn0 W w') := ⟨fun W A c hC hc => slices_Contains_int.calls 2000 A c g0 n _ W hC hc (contI_k g0 hgl n)⟩
        rw [decide_eq_true hmg] at HCT
        have hrne : ¬ rs = [] := fun e => hr0 (by rw [e]; rfl)
        clear ct hg1' hmg hgl
        go_wp2_with (first | (go_at_call 47; refine (HT.out _).mono ?_; rintro e w1 ⟨rfl, hb1⟩; have HB1 := aM hb1; clear hb1) | (go_at_call 46; refine (HIX.out _ HB1.out).mono ?_; rintro e w2 ⟨rfl, hb2⟩; have HB2 := aM (below_then HB1.out HB1.out.size hb2); clear hb2) | (go_at_call 43; refine (HCL.out _ HB2.out).mono ?_; rintro e w3 ⟨v3, rfl, ho3, hb3⟩; obtain ⟨A3, c3, rfl⟩ := Kd.R_slice ho3; have HO3 := aM ho3; have HB3 := aM hb3; clear ho3 hb3) | (go_at_call 48; refine (HDE.out _ _ _ HB3.out.size HO3.out).mono ?_; rintro e w4 ⟨v4, rfl, ho4, hb4⟩; obtain ⟨A4, c4, rfl⟩ := Kd.R_slice ho4; have HB4 := aM (HB2.out.trans ((HB3.out.trans hb4).mono HB2.out.size)); have HO4 := aM (Kd.R_lower ho4 (Nat.le_trans HWS.out HB2.out.size)); clear ho4 hb4) | (go_at_call 41; refine (HGR.out _ _ _ HO4.out).mono ?_; rintro e w5 ⟨v5, rfl, ho5, hb5⟩; obtain ⟨A5, c5, rfl⟩ := Kd.S_slice ho5; have HO5 := aM ho5; have HO45 := aM (Kd.R_below HO4.out hb5); have HB5 := aM (below_then HB4.out HB4.out.size hb5); obtain ⟨ad5, cs5, e5, _, ⟨Ai, ci, rfl, hci, hCi⟩, hcc5⟩ := ReadsRow.get_ (Kd.S_reads' ho5).2.2 [] (0 : Int) (by omega) (by simp); subst e5; obtain ⟨g5, rfl⟩ := Kd.R_head (Kd.S_R ho5); have hx5 : w5.cell? ⟨g5, 0, none⟩ = some (.slice Ai g0.length ci) := hcc5 0 _ rfl; have HCI := aM (And.intro hCi hci); clear ho5 hb5 hcc5 hCi hci) | (go_at_call 49; refine (HCT.out _ _ _ HCI.out.1 HCI.out.2).mono ?_; rintro e w6 ⟨rfl, hd6⟩; have hb6 := hd6.below; have HO46 := aM (Kd.R_below HO45.out hb6); have HB6 := aM (below_then HB5.out HB5.out.size hb6); clear hb6 hd6) | ((with_reducible refine gate_builtin (b := .append) (xs := #[.tmp 65, .tmp 67]) rfl ?_); at_builtin; refine OutFw.append (w0 := w) w.heap.size rfl (.tmp 65) (.tmp 67) Try.underlying24 info3 rfl (some ad) (q + 1) co out left (n : Int) rfl rfl (HOU2.out.below HB6.out) (below_then HBB.out HBB.out.size HB6.out) (Nat.le_trans HWS.out HB6.out.size) (by have := HBD.out.2.2; omega) ?_; intro v7 w7 vv ho7 hb7 hg7 hty7; obtain ⟨A7, c7, rfl, hou7⟩ := OutFw.own (left := rs) ho7; have HOU7 := aM hou7; have HB7 := aM hb7; have HR7 := aM (Kd.R_over' HO46.out hty7 (by decide) hg7); clear ho7 hb7 hg7 hty7 hou7))
        go_roundg rs.length
        case measure => have := HRS.out.2.1; omega
        case rel =>
         have hlen : (out ++ [(n : Int)]).length = q + 1 + 1 := by rw [List.length_append, List.length_singleton, ← HLA.out.2]
         rw [hlen] at HOU7
         exact ⟨rs, out ++ [(n : Int)], f', q + 1, A4, c4, A7, c7, rfl, by first | rw [hlen] | rw [← HLA.out.2], Nat.le_refl _, ⟨by have := HRS.out.2.1; have := HBD.out.1; omega, HRS.out.2.2, by rw [hlen]; have := HRS.out.2.1; have h1 := HBD.out.2.2; have := HLA.out.2; omega⟩, HNXT, HR7, HOU7, HB7⟩
      ·rw [if_neg ct] at hsc
       have HSN : Aside0 (fwScan (impl_groups.f k) left la (10 - (n + 1)) (n + 1) = some (some (m, rest))) := ⟨by rw [hd2]; exact hsc⟩
       have hr0 : rs ≠ [] := fun e => ct (.inl e)
       have hr0z : ¬ (rs.length : Int) = 0 := by have := List.length_pos_iff.2 hr0; omega
       have hr1 : ¬ rs.length = 0 := by omega
       have hrne : ¬ rs = [] := hr0
       clear hsc hd hd2 hmem her hi1 hrs HS hg1 hr0
       by_cases hgo : gs.length = 1
       ·obtain ⟨g0, rfl⟩ := List.length_eq_one_iff.1 hgo
        have hmg : ¬ (n : Int) ∈ g0 := fun e => ct (.inr ⟨rfl, e⟩)
        have hgl : g0.length ≤ 1000 := HG9.out g0 List.mem_cons_self
        have HCT : Aside0 (∀ (W : World) (A : Option Addr) (c : Nat), Kd.C (Kd.int .i64) W A g0.length g0 → g0.length ≤ c → Calls Try.prog 49 #[.slice A g0.length c, .int .i64 (n : Int)] W fun e w' => e = .returned (.bool (decide ((n : Int) ∈ g0))) ∧ Drawn0 W w') := ⟨fun W A c hC hc => slices_Contains_int.calls 2000 A c g0 n _ W hC hc (contI_k g0 hgl n)⟩
        rw [decide_eq_false hmg] at HCT
        clear ct hmg hgo hgl
        go_wp2_with (first | (go_at_call 47; refine (HT.out _).mono ?_; rintro e w1 ⟨rfl, hb1⟩; have HB1 := aM hb1; clear hb1) | (go_at_call 46; refine (HIX.out _ HB1.out).mono ?_; rintro e w2 ⟨rfl, hb2⟩; have HB2 := aM (below_then HB1.out HB1.out.size hb2); clear hb2) | (go_at_call 43; refine (HCL.out _ HB2.out).mono ?_; rintro e w3 ⟨v3, rfl, ho3, hb3⟩; obtain ⟨A3, c3, rfl⟩ := Kd.R_slice ho3; have HO3 := aM ho3; have HB3 := aM hb3; clear ho3 hb3) | (go_at_call 48; refine (HDE.out _ _ _ HB3.out.size HO3.out).mono ?_; rintro e w4 ⟨v4, rfl, ho4, hb4⟩; obtain ⟨A4, c4, rfl⟩ := Kd.R_slice ho4; have HB4 := aM (HB2.out.trans ((HB3.out.trans hb4).mono HB2.out.size)); have HO4 := aM (Kd.R_lower ho4 (Nat.le_trans HWS.out HB2.out.size)); clear ho4 hb4) | (go_at_call 41; refine (HGR.out _ _ _ HO4.out).mono ?_; rintro e w5 ⟨v5, rfl, ho5, hb5⟩; obtain ⟨A5, c5, rfl⟩ := Kd.S_slice ho5; have HO5 := aM ho5; have HO45 := aM (Kd.R_below HO4.out hb5); have HB5 := aM (below_then HB4.out HB4.out.size hb5); obtain ⟨ad5, cs5, e5, _, ⟨Ai, ci, rfl, hci, hCi⟩, hcc5⟩ := ReadsRow.get_ (Kd.S_reads' ho5).2.2 [] (0 : Int) (by omega) (by simp); subst e5; obtain ⟨g5, rfl⟩ := Kd.R_head (Kd.S_R ho5); have hx5 : w5.cell? ⟨g5, 0, none⟩ = some (.slice Ai g0.length ci) := hcc5 0 _ rfl; have HCI := aM (And.intro hCi hci); clear ho5 hb5 hcc5 hCi hci) | (go_at_call 49; refine (HCT.out _ _ _ HCI.out.1 HCI.out.2).mono ?_; rintro e w6 ⟨rfl, hd6⟩; have hb6 := hd6.below; have HO46 := aM (Kd.R_below HO45.out hb6); have HB6 := aM (below_then HB5.out HB5.out.size hb6); clear hb6 hd6))
        go_roundg (10 - (n + 1))
        case measure => omega
        case rel => exact ⟨n + 1, rfl, rfl, by go_num, by omega, Nat.le_refl _, HSN, ⟨Kd.R_below HRL2.out HB6.out⟩, ⟨HOU2.out.below HB6.out⟩, ⟨below_then HBB.out HBB.out.size HB6.out⟩⟩
       ·have hgoz : ¬ (gs.length : Int) = 1 := by omega
        clear ct
        go_wp2_with (first | (go_at_call 47; refine (HT.out _).mono ?_; rintro e w1 ⟨rfl, hb1⟩; have HB1 := aM hb1; clear hb1) | (go_at_call 46; refine (HIX.out _ HB1.out).mono ?_; rintro e w2 ⟨rfl, hb2⟩; have HB2 := aM (below_then HB1.out HB1.out.size hb2); clear hb2) | (go_at_call 43; refine (HCL.out _ HB2.out).mono ?_; rintro e w3 ⟨v3, rfl, ho3, hb3⟩; obtain ⟨A3, c3, rfl⟩ := Kd.R_slice ho3; have HO3 := aM ho3; have HB3 := aM hb3; clear ho3 hb3) | (go_at_call 48; refine (HDE.out _ _ _ HB3.out.size HO3.out).mono ?_; rintro e w4 ⟨v4, rfl, ho4, hb4⟩; obtain ⟨A4, c4, rfl⟩ := Kd.R_slice ho4; have HB4 := aM (HB2.out.trans ((HB3.out.trans hb4).mono HB2.out.size)); have HO4 := aM (Kd.R_lower ho4 (Nat.le_trans HWS.out HB2.out.size)); clear ho4 hb4) | (go_at_call 41; refine (HGR.out _ _ _ HO4.out).mono ?_; rintro e w5 ⟨v5, rfl, ho5, hb5⟩; obtain ⟨A5, c5, rfl⟩ := Kd.S_slice ho5; have HO5 := aM ho5; have HO45 := aM (Kd.R_below HO4.out hb5); have HB5 := aM (below_then HB4.out HB4.out.size hb5); clear ho5 hb5))
        go_roundg (10 - (n + 1))
        case measure => omega
        case rel => exact ⟨n + 1, rfl, rfl, by go_num, by omega, Nat.le_refl _, HSN, ⟨Kd.R_below HRL2.out HB5.out⟩, ⟨HOU2.out.below HB5.out⟩, ⟨below_then HBB.out HBB.out.size HB5.out⟩⟩
    ·obtain rfl : n = 10 := by omega
     cases HS.out

end

section
/-! ### impl_sorted: function 79: written by hand -/
def impl_sorted.f (l0 : List S41) : Option (List S41) := if l0.length < 8796093022208 ∧ (∀ x ∈ l0, inT x) then some (l0.mergeSort leT) else none
set_option maxHeartbeats 8000000 in
set_option maxRecDepth 100000 in
theorem impl_sorted.calls (A0 : Option Addr) (c0 : Nat) (l0 : List S41) (r : List S41) (w : World) (hr0 : Kd.C k41 w A0 l0.length l0) (hc0 : l0.length ≤ c0) (h : impl_sorted.f l0 = some r) :
  Calls Try.prog 79 #[.slice A0 l0.length c0] w fun e w' => ∃ v0_ : Value, e = .returned (v0_) ∧ Kd.R k41 41 w' w.heap.size (fun _ => True) v0_ r ∧ Below w.heap.size w w' := by
 unfold impl_sorted.f at h
 by_cases c2 : l0.length < 8796093022208 ∧ (∀ x ∈ l0, inT x)
 ·rw [if_pos c2] at h
  obtain rfl := Option.some.inj h
  have hcl := slices_Clone_Tile.calls A0 c0 l0 l0 w hr0 hc0 (by unfold slices_Clone_Tile.f; rw [if_pos c2.1])
  have hso : ∀ W v, Kd.R k41 41 W w.heap.size (fun _ => True) v l0 → w.heap.size ≤ W.heap.size → Calls Try.prog 81 #[v, .func (.func 82) #[] #[]] W fun e w' => e = .returned (.tuple #[]) ∧ Kd.R k41 41 w' w.heap.size (fun _ => True) v (l0.mergeSort leT) ∧ Below w.heap.size W w' := fun W v ho hs => slices_SortFunc_Tile.gcalls w.heap.size _ v l0 W hs ho c2.2 (by omega)
  clear hr0 hc0 h c2
  go_enter Try.func79, Try.ntmps79
  go_wp2_with (first | (go_at_call 43; refine hcl.mono ?_; rintro e w1 ⟨v1, rfl, ho1, hb1⟩; have HO1 := aM ho1; have HB1 := aM hb1; clear ho1 hb1) | (go_at_call 81; refine (hso _ _ HO1.out HB1.out.size).mono ?_; rintro e w2 ⟨rfl, ho2, hb2⟩))
  go_ret
  exact ⟨_, rfl, ho2, HB1.out.trans hb2⟩
 ·rw [if_neg c2] at h
  exact absurd h (by simp)

end

end Go.Proofs.Ytcomlipkmcphfaa.P
