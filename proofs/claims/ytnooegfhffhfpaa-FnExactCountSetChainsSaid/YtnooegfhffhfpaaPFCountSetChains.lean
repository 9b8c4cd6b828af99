-- Printed by a program of this session (wip/myprint.py, which drives the kit's print): what one function of the program does, and the proof that its call does so.
import Derived.Test.YtnooegfhffhfpaaP0
import Derived.Test.YtnooegfhffhfpaaPIa
import Derived.Test.YtnooegfhffhfpaaPIp
import Derived.Test.YtnooegfhffhfpaaPIx
import Derived.Test.YtnooegfhffhfpaaPSa
import Derived.Test.YtnooegfhffhfpaaPSb
import Derived.Test.YtnooegfhffhfpaaPSl
import Derived.Test.YtnooegfhffhfpaaPSm
namespace Go.Proofs.Ytnooegfhffhfpaa.P
open Go.RowKit Go.Proofs.YtnooegfhffhfpaaW.PrintWords Go.Proofs.YtnooegfhffhfpaaW.PrintLast Go.Proofs.YtnooegfhffhfpaaW.PrintMore
attribute [local go_sem] max2_int min2_int max_two min_two max_three min_three max_four min_four   -- for this text's walks alone
set_option linter.unusedVariables false
set_option linter.unusedSimpArgs false

section
/-! ### spec_CountSetChains: function 13 -/
def spec_CountSetChains.l0 : Nat → Int → Int → Int → Option (Int × Bool)
 | 0, _, _, _ => none
 | k + 1, x0, x4, x5 => if x5 < x0 then (spec_CountSetChains.l0 k x0 (wrap64 (x4 * (wrap64 (Int.tdiv x0 2)))) (wrap64 (x5 + 1))) else (some (x4, true))
def spec_CountSetChains.f (k : Nat) (a0 : Int) : Option (Int × Bool) := (spec_l1In.f a0 0 5).bind fun t331 => (if t331 = true then (if a0 = 1 then (some (2, true)) else (if (Int.tmod a0 2) = 1 then (some (0, true)) else ((spec_tiSet.f k a0).bind fun t332 => ((spec_whPlain.f k t332).bind fun t335 => ((spec_whCount.f k t335 0).bind fun t338 => (spec_CountSetChains.l0 k a0 (wrap64 ((wrap64 ((wrap64 (a0 + 1)) * t338)) * (wrap64 ((wrap64 (Int.tdiv a0 2)) + 1)))) 0)))))) else (some (0, false)))
theorem spec_CountSetChains.mono_l : ∀ k, (∀ y0 y1 y2, LeO (spec_CountSetChains.l0 k y0 y1 y2) (spec_CountSetChains.l0 (k + 1) y0 y1 y2))
 | 0 => fun _ _ _ r h => by simp [spec_CountSetChains.l0] at h
 | k + 1 => by
  have ih0 := spec_CountSetChains.mono_l k
  ·intro y0 y1 y2
   unfold spec_CountSetChains.l0
   repeat' first
   | (with_reducible exact ih0 _ _ _)
   | (with_reducible exact spec_tiSet.mono _ _)
   | (with_reducible exact spec_whCount.mono _ _ _)
   | (with_reducible exact spec_whPlain.mono _ _)
   | (with_reducible exact LeO.refl _)
   | (with_reducible exact LeO.none _)
   | (with_reducible refine LeO.ite ?_ ?_)
   | (with_reducible refine LeO.bind ?_ (fun _ => ?_))
   | exact ih0 _ _ _
   | exact spec_tiSet.mono _ _
   | exact spec_whCount.mono _ _ _
   | exact spec_whPlain.mono _ _
   | exact LeO.none _
   | refine LeO.ite ?_ ?_
   | refine LeO.bind ?_ (fun _ => ?_)
theorem spec_CountSetChains.mono : ∀ a0 k, LeO (spec_CountSetChains.f k a0) (spec_CountSetChains.f (k + 1) a0) := by
 intro a0 k
 have ih0 := spec_CountSetChains.mono_l k
 unfold spec_CountSetChains.f
 repeat' first
   | (with_reducible exact ih0 _ _ _)
   | (with_reducible exact spec_tiSet.mono _ _)
   | (with_reducible exact spec_whCount.mono _ _ _)
   | (with_reducible exact spec_whPlain.mono _ _)
   | (with_reducible exact LeO.refl _)
   | (with_reducible exact LeO.none _)
   | (with_reducible refine LeO.ite ?_ ?_)
   | (with_reducible refine LeO.bind ?_ (fun _ => ?_))
   | exact ih0 _ _ _
   | exact spec_tiSet.mono _ _
   | exact spec_whCount.mono _ _ _
   | exact spec_whPlain.mono _ _
   | exact LeO.none _
   | refine LeO.ite ?_ ?_
   | refine LeO.bind ?_ (fun _ => ?_)
set_option maxHeartbeats 8000000 in
set_option maxRecDepth 100000 in
theorem spec_CountSetChains.calls (k : Nat) (a0 : Int) (r1 : Int) (r2 : Bool) (w : World) (h : spec_CountSetChains.f k a0 = some (r1, r2)) :
  Calls Try.prog 13 #[.int .i64 a0] w fun e w' => e = .returned (.tuple #[.int .i64 r1, .bool r2]) ∧ Below w.heap.size w w' := by
 have HB := aM (Below.refl w.heap.size w)
 have H : ((spec_l1In.f a0 0 5).bind fun t331 => (if t331 = true then (if a0 = 1 then (some (2, true)) else (if (Int.tmod a0 2) = 1 then (some (0, true)) else ((spec_tiSet.f k a0).bind fun t332 => ((spec_whPlain.f k t332).bind fun t335 => ((spec_whCount.f k t335 0).bind fun t338 => (spec_CountSetChains.l0 k a0 (wrap64 ((wrap64 ((wrap64 (a0 + 1)) * t338)) * (wrap64 ((wrap64 (Int.tdiv a0 2)) + 1)))) 0)))))) else (some (0, false)))) = some (r1, r2) := h
 clear h
 replace H := oB H
 obtain ⟨t331, A20, H⟩ := H
 replace H : (if t331 = true then (if a0 = 1 then (some (2, true)) else (if (Int.tmod a0 2) = 1 then (some (0, true)) else ((spec_tiSet.f k a0).bind fun t332 => ((spec_whPlain.f k t332).bind fun t335 => ((spec_whCount.f k t335 0).bind fun t338 => (spec_CountSetChains.l0 k a0 (wrap64 ((wrap64 ((wrap64 (a0 + 1)) * t338)) * (wrap64 ((wrap64 (Int.tdiv a0 2)) + 1)))) 0)))))) else (some (0, false))) = some (r1, r2) := H
 have A2 := aM A20
 clear A20
 by_cases c3 : t331 = true
 ·subst c3
  have H1 : (if a0 = 1 then (some (2, true)) else (if (Int.tmod a0 2) = 1 then (some (0, true)) else ((spec_tiSet.f k a0).bind fun t332 => ((spec_whPlain.f k t332).bind fun t335 => ((spec_whCount.f k t335 0).bind fun t338 => (spec_CountSetChains.l0 k a0 (wrap64 ((wrap64 ((wrap64 (a0 + 1)) * t338)) * (wrap64 ((wrap64 (Int.tdiv a0 2)) + 1)))) 0)))))) = some (r1, r2) := by rw [if_pos rfl] at H; exact H
  clear H
  have H := H1
  clear H1
  by_cases c4 : a0 = 1
  ·rw [if_pos c4] at H
   have c4b0 : (a0 == 1) = true := beq_iff_eq.mpr c4
   have c4b1 : (a0 != 1) = false := bne_eq_false_iff_eq.mpr c4
   clear c4
   simp only [Option.some.injEq, Prod.mk.injEq] at H
   obtain ⟨rfl, rfl⟩ := H
   go_enter Try.func13, Try.ntmps13
   go_wp2_with (first | ((with_reducible refine gate_callee (f := 24) rfl ?_); refine goesL_ (some 7) rfl rfl Try.func24 (by kernel_rfl) rfl #[.int .i64 a0, .int .i64 0, .int .i64 5] rfl (by (try simp only [List.map_toArray, List.map_cons, List.map_nil]); first | done | rfl | (simp only [List.length_drop, List.length_take]; rfl)) ?_; (with_reducible refine (spec_l1In.calls a0 0 5 true _ A2.out).mono ?_); rintro e w' ⟨rfl, ⟨nd, rfl⟩⟩; refine ⟨_, rfl, ?_⟩))
   go_ret2
   exact ⟨by first | rfl | (simp [errW_none, errW_some] <;> rfl) | (simp [*, errW_none, errW_some] <;> rfl), by repeat (first | (with_reducible first | exact HB.out | apply bA | apply bN | apply bD) | exact HB.out)⟩
  ·rw [if_neg c4] at H
   have c4b0 : (a0 == 1) = false := beq_eq_false_iff_ne.mpr c4
   have c4b1 : (a0 != 1) = true := bne_iff_ne.mpr c4
   by_cases c5 : (Int.tmod a0 2) = 1
   ·rw [if_pos c5] at H
    have c5b0 : ((Int.tmod a0 2) == 1) = true := beq_iff_eq.mpr c5
    have c5b1 : ((Int.tmod a0 2) != 1) = false := bne_eq_false_iff_eq.mpr c5
    clear c5
    simp only [Option.some.injEq, Prod.mk.injEq] at H
    obtain ⟨rfl, rfl⟩ := H
    go_enter Try.func13, Try.ntmps13
    go_wp2_with (first | ((with_reducible refine gate_callee (f := 24) rfl ?_); refine goesL_ (some 7) rfl rfl Try.func24 (by kernel_rfl) rfl #[.int .i64 a0, .int .i64 0, .int .i64 5] rfl (by (try simp only [List.map_toArray, List.map_cons, List.map_nil]); first | done | rfl | (simp only [List.length_drop, List.length_take]; rfl)) ?_; (with_reducible refine (spec_l1In.calls a0 0 5 true _ A2.out).mono ?_); rintro e w' ⟨rfl, ⟨nd, rfl⟩⟩; refine ⟨_, rfl, ?_⟩))
    go_ret2
    exact ⟨by first | rfl | (simp [errW_none, errW_some] <;> rfl) | (simp [*, errW_none, errW_some] <;> rfl), by repeat (first | (with_reducible first | exact HB.out | apply bA | apply bN | apply bD) | exact HB.out)⟩
   ·rw [if_neg c5] at H
    have c5b0 : ((Int.tmod a0 2) == 1) = false := beq_eq_false_iff_ne.mpr c5
    have c5b1 : ((Int.tmod a0 2) != 1) = true := bne_iff_ne.mpr c5
    replace H := oB H
    obtain ⟨t332, A60, H⟩ := H
    replace H : ((spec_whPlain.f k t332).bind fun t335 => ((spec_whCount.f k t335 0).bind fun t338 => (spec_CountSetChains.l0 k a0 (wrap64 ((wrap64 ((wrap64 (a0 + 1)) * t338)) * (wrap64 ((wrap64 (Int.tdiv a0 2)) + 1)))) 0))) = some (r1, r2) := H
    have A6 := aM A60
    clear A60
    replace H := oB H
    obtain ⟨t335, A70, H⟩ := H
    replace H : ((spec_whCount.f k t335 0).bind fun t338 => (spec_CountSetChains.l0 k a0 (wrap64 ((wrap64 ((wrap64 (a0 + 1)) * t338)) * (wrap64 ((wrap64 (Int.tdiv a0 2)) + 1)))) 0)) = some (r1, r2) := H
    have A7 := aM A70
    clear A70
    replace H := oB H
    obtain ⟨t338, A80, H⟩ := H
    replace H : (spec_CountSetChains.l0 k a0 (wrap64 ((wrap64 ((wrap64 (a0 + 1)) * t338)) * (wrap64 ((wrap64 (Int.tdiv a0 2)) + 1)))) 0) = some (r1, r2) := H
    have A8 := aM A80
    clear A80
    have H' := aM H
    clear H
    go_enter Try.func13, Try.ntmps13
    go_wp2_with (first | ((with_reducible refine gate_callee (f := 24) rfl ?_); refine goesL_ (some 7) rfl rfl Try.func24 (by kernel_rfl) rfl #[.int .i64 a0, .int .i64 0, .int .i64 5] rfl (by (try simp only [List.map_toArray, List.map_cons, List.map_nil]); first | done | rfl | (simp only [List.length_drop, List.length_take]; rfl)) ?_; (with_reducible refine (spec_l1In.calls a0 0 5 true _ A2.out).mono ?_); rintro e w' ⟨rfl, ⟨nd, rfl⟩⟩; refine ⟨_, rfl, ?_⟩) | ((with_reducible refine gate_callee (f := 26) rfl ?_); refine goesL_ (some 19) rfl rfl Try.func26 (by kernel_rfl) rfl #[.int .i64 a0] rfl (by (try simp only [List.map_toArray, List.map_cons, List.map_nil]); first | done | rfl | (simp only [List.length_drop, List.length_take]; rfl)) ?_; (with_reducible refine (spec_tiSet.calls k a0 t332 _ A6.out).mono ?_); rintro e w9 ⟨v333, rfl, ho0, hb⟩; refine ⟨_, rfl, ?_⟩; have n0_ := aM (Kd.R_lower ho0 (below_size (by repeat (first | (with_reducible first | exact HB.out | apply bA | apply bN | apply bD) | exact HB.out)))); have n1_ := aM (below_step (by repeat (first | (with_reducible first | exact HB.out | apply bA | apply bN | apply bD) | exact HB.out)) hb); clear HB; have HO334 := n0_; have HB := n1_; clear n0_ n1_; (try clear hb); (try clear hb2); (try clear hk); (try clear hi); (try clear ho0); obtain ⟨Ao10, co10, eo10⟩ := Kd.R_slice HO334.out; subst eo10) | ((with_reducible refine gate_callee (f := 17) rfl ?_); refine goesL_ (some 20) rfl rfl Try.func17 (by kernel_rfl) rfl #[.slice Ao10 t332.length co10] rfl (by (try simp only [List.map_toArray, List.map_cons, List.map_nil]); first | done | rfl | (simp only [List.length_drop, List.length_take]; rfl)) ?_; (with_reducible refine (spec_whPlain.calls k _ _ t332 t335 _ ?side1 ?side2 A7.out).mono ?_); (case side1 => repeat (first | exact (Kd.R_reads' HO334.out).2.2 | (with_reducible refine Kd.C_alloc ?_ _) | (with_reducible refine Kd.C_drewN ?_ _) | (with_reducible refine Kd.C_drew ?_))); (case side2 => exact (Kd.R_reads' HO334.out).2.1); rintro e w11 ⟨v336, rfl, ho0, hb⟩; refine ⟨_, rfl, ?_⟩; have n0_ := aM (Kd.R_elder' (by (with_reducible repeat (first | apply rA | apply rN | apply rD)); exact HO334.out) (Kd.R_base ho0) hb); have n1_ := aM (Kd.R_lower (Kd.R_new' ho0 (Kd.R_lt (by (with_reducible repeat (first | apply rA | apply rN | apply rD)); exact HO334.out))) (below_size (by repeat (first | (with_reducible first | exact HB.out | apply bA | apply bN | apply bD) | exact HB.out)))); have n2_ := aM (below_step (by repeat (first | (with_reducible first | exact HB.out | apply bA | apply bN | apply bD) | exact HB.out)) hb); clear HO334; clear HB; have HO334 := n0_; have HO337 := n1_; have HB := n2_; clear n0_ n1_ n2_; (try clear hb); (try clear hb2); (try clear hk); (try clear hi); (try clear ho0); obtain ⟨Ao12, co12, eo12⟩ := Kd.R_slice HO337.out; subst eo12) | ((with_reducible refine gate_callee (f := 25) rfl ?_); refine goesL_ (some 21) rfl rfl Try.func25 (by kernel_rfl) rfl #[.slice Ao12 t335.length co12, .int .i64 0] rfl (by (try simp only [List.map_toArray, List.map_cons, List.map_nil]); first | done | rfl | (simp only [List.length_drop, List.length_take]; rfl)) ?_; (with_reducible refine (spec_whCount.calls k _ _ t335 0 t338 _ ?side1 ?side2 A8.out).mono ?_); (case side1 => repeat (first | exact (Kd.R_reads' HO337.out).2.2 | (with_reducible refine Kd.C_alloc ?_ _) | (with_reducible refine Kd.C_drewN ?_ _) | (with_reducible refine Kd.C_drew ?_))); (case side2 => exact (Kd.R_reads' HO337.out).2.1); rintro e w13 ⟨rfl, hb⟩; refine ⟨_, rfl, ?_⟩; have n0_ := aM (Kd.R_below (by (with_reducible repeat (first | apply rA | apply rN | apply rD)); exact HO334.out) hb); have n1_ := aM (Kd.R_below (by (with_reducible repeat (first | apply rA | apply rN | apply rD)); exact HO337.out) hb); have n2_ := aM (below_step (by repeat (first | (with_reducible first | exact HB.out | apply bA | apply bN | apply bD) | exact HB.out)) hb); clear HO334; clear HO337; clear HB; have HO334 := n0_; have HO337 := n1_; have HB := n2_; clear n0_ n1_ n2_; (try clear hb); (try clear hb2); (try clear hk); (try clear hi)))
    go_loopg [4, 5] k (fun kq v4 v5 w' => ∃ (x4_1 : Int) (x5_1 : Int), v4 = .int .i64 x4_1 ∧ v5 = .int .i64 x5_1 ∧ Aside0 (spec_CountSetChains.l0 kq a0 x4_1 x5_1 = some (r1, r2)) ∧ Aside0 (kq ≤ k) ∧ Aside0 (Below w.heap.size w w'))
    case atStart => exact ⟨(wrap64 ((wrap64 ((wrap64 (a0 + 1)) * t338)) * (wrap64 ((wrap64 (Int.tdiv a0 2)) + 1)))), (0), (by first | rfl | (simp; done) | (simp [*]; done)), (by first | rfl | (simp; done) | (simp [*]; done)), H', ⟨Nat.le_refl _⟩, ⟨by repeat (first | (with_reducible first | exact HB.out | apply bA | apply bN | apply bD) | exact HB.out)⟩⟩
    case round =>
     clear H'
     try clear c1
     try clear c2
     try clear p2
     try clear c3
     try clear c4
     try clear c4b0
     try clear c4b1
     try clear c5
     try clear c5b0
     try clear c5b1
     try clear p6
     try clear c13
     obtain ⟨x4_1, x5_1, rfl, rfl, HA, HK1, HB⟩ := hrel
     cases gk with
     | zero => exact absurd HA.out (by simp [spec_CountSetChains.l0])
     | succ k1 =>
      have H := HA.out
      clear HA
      simp only [spec_CountSetChains.l0] at H
      by_cases c14 : x5_1 < a0
      ·rw [if_pos c14] at H
       have c14b0 : decide (x5_1 < a0) = true := decide_eq_true c14
       clear c14
       have H' := aM H
       clear H
       go_wp2
       go_roundg k1
       case measure => have := HK1.out; omega
       case rel => exact ⟨(wrap64 (x4_1 * (wrap64 (Int.tdiv a0 2)))), (wrap64 (x5_1 + 1)), (by first | rfl | (simp; done) | (simp [*]; done)), (by first | rfl | (simp; done) | (simp [*]; done)), H', ⟨by have := HK1.out; omega⟩, ⟨by repeat (first | (with_reducible first | exact HB.out | apply bA | apply bN | apply bD) | exact HB.out)⟩⟩
      ·rw [if_neg c14] at H
       have c14b0 : decide (x5_1 < a0) = false := decide_eq_false c14
       clear c14
       simp only [Option.some.injEq, Prod.mk.injEq] at H
       obtain ⟨rfl, rfl⟩ := H
       go_wp2
       go_ret2
       exact ⟨by first | rfl | (simp [errW_none, errW_some] <;> rfl) | (simp [*, errW_none, errW_some] <;> rfl), by repeat (first | (with_reducible first | exact HB.out | apply bA | apply bN | apply bD) | exact HB.out)⟩
 ·replace c3 := Bool.eq_false_iff.mpr c3
  subst c3
  have H1 : (some (0, false)) = some (r1, r2) := by rw [if_neg (show ¬ (false = true) by decide)] at H; exact H
  clear H
  have H := H1
  clear H1
  simp only [Option.some.injEq, Prod.mk.injEq] at H
  obtain ⟨rfl, rfl⟩ := H
  go_enter Try.func13, Try.ntmps13
  go_wp2_with (first | ((with_reducible refine gate_callee (f := 24) rfl ?_); refine goesL_ (some 7) rfl rfl Try.func24 (by kernel_rfl) rfl #[.int .i64 a0, .int .i64 0, .int .i64 5] rfl (by (try simp only [List.map_toArray, List.map_cons, List.map_nil]); first | done | rfl | (simp only [List.length_drop, List.length_take]; rfl)) ?_; (with_reducible refine (spec_l1In.calls a0 0 5 false _ A2.out).mono ?_); rintro e w' ⟨rfl, ⟨nd, rfl⟩⟩; refine ⟨_, rfl, ?_⟩))
  go_ret2
  exact ⟨by first | rfl | (simp [errW_none, errW_some] <;> rfl) | (simp [*, errW_none, errW_some] <;> rfl), by repeat (first | (with_reducible first | exact HB.out | apply bA | apply bN | apply bD) | exact HB.out)⟩

end

section
/-! ### impl_CountSetChains: function 14 -/
def impl_CountSetChains.f (k : Nat) (a0 : Int) : Option (Int × Bool) := (impl_within.f a0 0 5).bind fun t345 => (if t345 = true then ((impl_setOf.f k a0).bind fun t346 => ((impl_countWhole.f k t346).bind fun t349 => (some (t349, true)))) else (some (0, false)))
theorem impl_CountSetChains.mono : ∀ a0 k, LeO (impl_CountSetChains.f k a0) (impl_CountSetChains.f (k + 1) a0) := by
 intro a0 k
 unfold impl_CountSetChains.f
 repeat' first
   | (with_reducible exact impl_countWhole.mono _ _)
   | (with_reducible exact impl_setOf.mono _ _)
   | (with_reducible exact LeO.refl _)
   | (with_reducible exact LeO.none _)
   | (with_reducible refine LeO.ite ?_ ?_)
   | (with_reducible refine LeO.bind ?_ (fun _ => ?_))
   | exact impl_countWhole.mono _ _
   | exact impl_setOf.mono _ _
   | exact LeO.none _
   | refine LeO.ite ?_ ?_
   | refine LeO.bind ?_ (fun _ => ?_)
set_option maxHeartbeats 8000000 in
set_option maxRecDepth 100000 in
theorem impl_CountSetChains.calls (k : Nat) (a0 : Int) (r1 : Int) (r2 : Bool) (w : World) (h : impl_CountSetChains.f k a0 = some (r1, r2)) :
  Calls Try.prog 14 #[.int .i64 a0] w fun e w' => e = .returned (.tuple #[.int .i64 r1, .bool r2]) ∧ Below w.heap.size w w' := by
 have HB := aM (Below.refl w.heap.size w)
 have H : ((impl_within.f a0 0 5).bind fun t345 => (if t345 = true then ((impl_setOf.f k a0).bind fun t346 => ((impl_countWhole.f k t346).bind fun t349 => (some (t349, true)))) else (some (0, false)))) = some (r1, r2) := h
 clear h
 replace H := oB H
 obtain ⟨t345, A20, H⟩ := H
 replace H : (if t345 = true then ((impl_setOf.f k a0).bind fun t346 => ((impl_countWhole.f k t346).bind fun t349 => (some (t349, true)))) else (some (0, false))) = some (r1, r2) := H
 have A2 := aM A20
 clear A20
 by_cases c3 : t345 = true
 ·subst c3
  have H1 : ((impl_setOf.f k a0).bind fun t346 => ((impl_countWhole.f k t346).bind fun t349 => (some (t349, true)))) = some (r1, r2) := by rw [if_pos rfl] at H; exact H
  clear H
  have H := H1
  clear H1
  replace H := oB H
  obtain ⟨t346, A40, H⟩ := H
  replace H : ((impl_countWhole.f k t346).bind fun t349 => (some (t349, true))) = some (r1, r2) := H
  have A4 := aM A40
  clear A40
  replace H := oB H
  obtain ⟨t349, A50, H⟩ := H
  replace H : (some (t349, true)) = some (r1, r2) := H
  have A5 := aM A50
  clear A50
  simp only [Option.some.injEq, Prod.mk.injEq] at H
  obtain ⟨rfl, rfl⟩ := H
  go_enter Try.func14, Try.ntmps14
  go_wp2_with (first | ((with_reducible refine gate_callee (f := 27) rfl ?_); refine goesL_ (some 5) rfl rfl Try.func27 (by kernel_rfl) rfl #[.int .i64 a0, .int .i64 0, .int .i64 5] rfl (by (try simp only [List.map_toArray, List.map_cons, List.map_nil]); first | done | rfl | (simp only [List.length_drop, List.length_take]; rfl)) ?_; (with_reducible refine (impl_within.calls a0 0 5 true _ A2.out).mono ?_); rintro e w' ⟨rfl, ⟨nd, rfl⟩⟩; refine ⟨_, rfl, ?_⟩) | ((with_reducible refine gate_callee (f := 28) rfl ?_); refine goesL_ (some 8) rfl rfl Try.func28 (by kernel_rfl) rfl #[.int .i64 a0] rfl (by (try simp only [List.map_toArray, List.map_cons, List.map_nil]); first | done | rfl | (simp only [List.length_drop, List.length_take]; rfl)) ?_; (with_reducible refine (impl_setOf.calls k a0 t346 _ A4.out).mono ?_); rintro e w6 ⟨v347, rfl, ho0, hb⟩; refine ⟨_, rfl, ?_⟩; have n0_ := aM (Kd.R_lower ho0 (below_size (by repeat (first | (with_reducible first | exact HB.out | apply bA | apply bN | apply bD) | exact HB.out)))); have n1_ := aM (below_step (by repeat (first | (with_reducible first | exact HB.out | apply bA | apply bN | apply bD) | exact HB.out)) hb); clear HB; have HO348 := n0_; have HB := n1_; clear n0_ n1_; (try clear hb); (try clear hb2); (try clear hk); (try clear hi); (try clear ho0); obtain ⟨Ao7, co7, eo7⟩ := Kd.R_slice HO348.out; subst eo7) | ((with_reducible refine gate_callee (f := 21) rfl ?_); refine goesL_ (some 9) rfl rfl Try.func21 (by kernel_rfl) rfl #[.slice Ao7 t346.length co7] rfl (by (try simp only [List.map_toArray, List.map_cons, List.map_nil]); first | done | rfl | (simp only [List.length_drop, List.length_take]; rfl)) ?_; (with_reducible refine (impl_countWhole.calls k _ _ t346 t349 _ ?side1 ?side2 A5.out).mono ?_); (case side1 => repeat (first | exact (Kd.R_reads' HO348.out).2.2 | (with_reducible refine Kd.C_alloc ?_ _) | (with_reducible refine Kd.C_drewN ?_ _) | (with_reducible refine Kd.C_drew ?_))); (case side2 => exact (Kd.R_reads' HO348.out).2.1); rintro e w8 ⟨rfl, hb⟩; refine ⟨_, rfl, ?_⟩; have n0_ := aM (Kd.R_below (by (with_reducible repeat (first | apply rA | apply rN | apply rD)); exact HO348.out) hb); have n1_ := aM (below_step (by repeat (first | (with_reducible first | exact HB.out | apply bA | apply bN | apply bD) | exact HB.out)) hb); clear HO348; clear HB; have HO348 := n0_; have HB := n1_; clear n0_ n1_; (try clear hb); (try clear hb2); (try clear hk); (try clear hi)))
  go_ret2
  exact ⟨by first | rfl | (simp [errW_none, errW_some] <;> rfl) | (simp [*, errW_none, errW_some] <;> rfl), by repeat (first | (with_reducible first | exact HB.out | apply bA | apply bN | apply bD) | exact HB.out)⟩
 ·replace c3 := Bool.eq_false_iff.mpr c3
  subst c3
  have H1 : (some (0, false)) = some (r1, r2) := by rw [if_neg (show ¬ (false = true) by decide)] at H; exact H
  clear H
  have H := H1
  clear H1
  simp only [Option.some.injEq, Prod.mk.injEq] at H
  obtain ⟨rfl, rfl⟩ := H
  go_enter Try.func14, Try.ntmps14
  go_wp2_with (first | ((with_reducible refine gate_callee (f := 27) rfl ?_); refine goesL_ (some 5) rfl rfl Try.func27 (by kernel_rfl) rfl #[.int .i64 a0, .int .i64 0, .int .i64 5] rfl (by (try simp only [List.map_toArray, List.map_cons, List.map_nil]); first | done | rfl | (simp only [List.length_drop, List.length_take]; rfl)) ?_; (with_reducible refine (impl_within.calls a0 0 5 false _ A2.out).mono ?_); rintro e w' ⟨rfl, ⟨nd, rfl⟩⟩; refine ⟨_, rfl, ?_⟩))
  go_ret2
  exact ⟨by first | rfl | (simp [errW_none, errW_some] <;> rfl) | (simp [*, errW_none, errW_some] <;> rfl), by repeat (first | (with_reducible first | exact HB.out | apply bA | apply bN | apply bD) | exact HB.out)⟩

end

end Go.Proofs.Ytnooegfhffhfpaa.P
