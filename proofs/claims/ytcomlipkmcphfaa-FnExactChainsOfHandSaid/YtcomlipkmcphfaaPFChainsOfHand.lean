-- Printed by a program of this session (wip/myprint.py, which drives the kit's print): what one function of the program does, and the proof that its call does so.
import Derived.Test.YtcomlipkmcphfaaP0
import Derived.Test.YtcomlipkmcphfaaPFFirstWhole
import Derived.Test.YtcomlipkmcphfaaPSa
import Derived.Test.YtcomlipkmcphfaaPSk2
import Derived.Test.YtcomlipkmcphfaaPSl
import Derived.Test.YtcomlipkmcphfaaPimplPartsOfHand
namespace Go.Proofs.Ytcomlipkmcphfaa.P
open Go.RowKit Go.Proofs.YtcomlipkmcphfaaW.PrintWords Go.Proofs.YtcomlipkmcphfaaW.PrintLast Go.Proofs.YtcomlipkmcphfaaW.PrintMore
attribute [local go_sem] max2_int min2_int max_two min_two max_three min_three max_four min_four   -- for this text's walks alone
set_option linter.unusedVariables false
set_option linter.unusedSimpArgs false

section
/-! ### spec_ChainsOfHand: function 17 -/
def spec_ChainsOfHand.l0 : Nat → List (List Int) → List (List (S41)) → Int → Int → Option ((List (List Int)) × Bool)
 | 0, _, _, _, _ => none
 | k + 1, x4, x13, x14, x15 => if x15 < x14 then (if 0 ≤ x15 then (if x15 < (x13.length : Int) then ((spec_whFirst.f k (rd_L3 x13 x15)).bind fun bt391 => (if bt391.2 = true then (if x4.length < 5864062014805 then (spec_ChainsOfHand.l0 k (x4 ++ [bt391.1]) x13 x14 (wrap64 (x15 + 1))) else (none)) else (some (([] : List (List Int)), false)))) else (none)) else (none)) else (some (x4, true))
def spec_ChainsOfHand.f (k : Nat) (l0 : List (S41)) : Option ((List (List Int)) × Bool) := (spec_tiHand.f k l0).bind fun t386 => (if t386 = true then ((spec_whParts.f k l0).bind fun t387 => (spec_ChainsOfHand.l0 k ([] : List (List Int)) t387 (t387.length : Int) 0)) else (some (([] : List (List Int)), false)))
theorem spec_ChainsOfHand.mono_l : ∀ k, (∀ y0 y1 y2 y3, LeO (spec_ChainsOfHand.l0 k y0 y1 y2 y3) (spec_ChainsOfHand.l0 (k + 1) y0 y1 y2 y3))
 | 0 => fun _ _ _ _ r h => by simp [spec_ChainsOfHand.l0] at h
 | k + 1 => by
  have ih0 := spec_ChainsOfHand.mono_l k
  ·intro y0 y1 y2 y3
   unfold spec_ChainsOfHand.l0
   repeat' first
   | (with_reducible exact ih0 _ _ _ _)
   | (with_reducible exact spec_tiHand.mono _ _)
   | (with_reducible exact spec_whFirst.mono _ _)
   | (with_reducible exact spec_whParts.mono _ _)
   | (with_reducible exact LeO.refl _)
   | (with_reducible exact LeO.none _)
   | (with_reducible refine LeO.ite ?_ ?_)
   | (with_reducible refine LeO.bind ?_ (fun _ => ?_))
   | exact ih0 _ _ _ _
   | exact spec_tiHand.mono _ _
   | exact spec_whFirst.mono _ _
   | exact spec_whParts.mono _ _
   | exact LeO.none _
   | refine LeO.ite ?_ ?_
   | refine LeO.bind ?_ (fun _ => ?_)
theorem spec_ChainsOfHand.mono : ∀ a0 k, LeO (spec_ChainsOfHand.f k a0) (spec_ChainsOfHand.f (k + 1) a0) := by
 intro a0 k
 have ih0 := spec_ChainsOfHand.mono_l k
 unfold spec_ChainsOfHand.f
 repeat' first
   | (with_reducible exact ih0 _ _ _ _)
   | (with_reducible exact spec_tiHand.mono _ _)
   | (with_reducible exact spec_whFirst.mono _ _)
   | (with_reducible exact spec_whParts.mono _ _)
   | (with_reducible exact LeO.refl _)
   | (with_reducible exact LeO.none _)
   | (with_reducible refine LeO.ite ?_ ?_)
   | (with_reducible refine LeO.bind ?_ (fun _ => ?_))
   | exact ih0 _ _ _ _
   | exact spec_tiHand.mono _ _
   | exact spec_whFirst.mono _ _
   | exact spec_whParts.mono _ _
   | exact LeO.none _
   | refine LeO.ite ?_ ?_
   | refine LeO.bind ?_ (fun _ => ?_)
set_option maxHeartbeats 8000000 in
set_option maxRecDepth 100000 in
theorem spec_ChainsOfHand.calls (k : Nat) (A0 : Option Addr) (c0 : Nat) (l0 : List (S41)) (r1 : List (List Int)) (r2 : Bool) (w : World) (hr0 : Kd.C k41 w A0 l0.length l0) (hc0 : l0.length ≤ c0) (h : spec_ChainsOfHand.f k l0 = some (r1, r2)) :
  Calls Try.prog 17 #[.slice A0 l0.length c0] w fun e w' => ∃ v0_ : Value, e = .returned (.tuple #[v0_, .bool r2]) ∧ Kd.S (Kd.slice 3 (Kd.int .i64)) 24 w' w.heap.size (fun _ => True) v0_ r1 ∧ Below w.heap.size w w' := by
 have HR0 := aM hr0
 have HC0 := aM hc0
 clear hr0 hc0
 have HB := aM (Below.refl w.heap.size w)
 have H : ((spec_tiHand.f k l0).bind fun t386 => (if t386 = true then ((spec_whParts.f k l0).bind fun t387 => (spec_ChainsOfHand.l0 k ([] : List (List Int)) t387 (t387.length : Int) 0)) else (some (([] : List (List Int)), false)))) = some (r1, r2) := h
 clear h
 replace H := oB H
 obtain ⟨t386, A20, H⟩ := H
 replace H : (if t386 = true then ((spec_whParts.f k l0).bind fun t387 => (spec_ChainsOfHand.l0 k ([] : List (List Int)) t387 (t387.length : Int) 0)) else (some (([] : List (List Int)), false))) = some (r1, r2) := H
 have A2 := aM A20
 clear A20
 by_cases c3 : t386 = true
 ·subst c3
  have H1 : ((spec_whParts.f k l0).bind fun t387 => (spec_ChainsOfHand.l0 k ([] : List (List Int)) t387 (t387.length : Int) 0)) = some (r1, r2) := by rw [if_pos rfl] at H; exact H
  clear H
  have H := H1
  clear H1
  replace H := oB H
  obtain ⟨t387, A40, H⟩ := H
  replace H : (spec_ChainsOfHand.l0 k ([] : List (List Int)) t387 (t387.length : Int) 0) = some (r1, r2) := H
  have A4 := aM A40
  clear A40
  have H' := aM H
  clear H
  go_enter Try.func17, Try.ntmps17
  go_wp2_with (first | ((with_reducible refine gate_callee (f := 22) rfl ?_); refine goesL_ (some 10) rfl rfl Try.func22 (by kernel_rfl) rfl #[.slice A0 l0.length c0] rfl (by (try simp only [List.map_toArray, List.map_cons, List.map_nil]); first | done | rfl | (simp only [List.length_drop, List.length_take]; rfl)) ?_; (with_reducible refine (spec_tiHand.calls k _ _ l0 true _ ?side1 ?side2 A2.out).mono ?_); (case side1 => repeat (first | exact HR0.out | (with_reducible refine Kd.C_alloc ?_ _) | (with_reducible refine Kd.C_drewN ?_ _) | (with_reducible refine Kd.C_drew ?_))); (case side2 => exact HC0.out); rintro e w5 ⟨rfl, hb⟩; refine ⟨_, rfl, ?_⟩; have n0_ := aM (below_step (by repeat (first | (with_reducible first | exact HB.out | apply bA | apply bN | apply bD) | exact HB.out)) hb); clear HB; have HB := n0_; clear n0_; (try clear hb); (try clear hb2); (try clear hk); (try clear hi)) | ((with_reducible refine gate_callee (f := 31) rfl ?_); refine goesL_ (some 13) rfl rfl Try.func31 (by kernel_rfl) rfl #[.slice A0 l0.length c0] rfl (by (try simp only [List.map_toArray, List.map_cons, List.map_nil]); first | done | rfl | (simp only [List.length_drop, List.length_take]; rfl)) ?_; (with_reducible refine (spec_whParts.calls k _ _ l0 t387 _ ?side1 ?side2 A4.out).mono ?_); (case side1 => repeat (first | exact (Kd.C_below HR0.out HB.out) | (with_reducible refine Kd.C_alloc ?_ _) | (with_reducible refine Kd.C_drewN ?_ _) | (with_reducible refine Kd.C_drew ?_))); (case side2 => exact HC0.out); rintro e w6 ⟨v388, rfl, ho0, hb⟩; refine ⟨_, rfl, ?_⟩; have n0_ := aM (Kd.S_lower ho0 (below_size (by repeat (first | (with_reducible first | exact HB.out | apply bA | apply bN | apply bD) | exact HB.out)))); have n1_ := aM (below_step (by repeat (first | (with_reducible first | exact HB.out | apply bA | apply bN | apply bD) | exact HB.out)) hb); clear HB; have HO389 := n0_; have HB := n1_; clear n0_ n1_; (try clear hb); (try clear hb2); (try clear hk); (try clear hi); (try clear ho0); obtain ⟨Ao7, co7, eo7⟩ := Kd.S_slice HO389.out; subst eo7))
  go_loopg [4, 15] k (fun kq v4 v15 w' => ∃ (x4_1 : List (List Int)) (x15_1 : Int), v15 = .int .i64 x15_1 ∧ Aside0 (spec_ChainsOfHand.l0 kq x4_1 t387 (t387.length : Int) x15_1 = some (r1, r2)) ∧ Aside0 (kq ≤ k) ∧ Aside0 (Kd.S (Kd.slice 3 (Kd.int .i64)) 24 w' w.heap.size (fun _ => True) v4 x4_1) ∧ Aside0 (Kd.S (Kd.slice 41 k41) 27 w' w.heap.size (fun _ => True) (.slice Ao7 t387.length co7) t387) ∧ Aside0 (Below w.heap.size w w'))
  case atStart => exact ⟨(([] : List (List Int))), (0), (by first | rfl | (simp; done) | (simp [*]; done)), H', ⟨Nat.le_refl _⟩, ⟨by first | exact Kd.S_nil _ _ _ _ _ | exact Kd.N_nil _ _ _ _ _ | exact Kd.V_nil _ _ _ _ _ | exact Kd.Q_nil _ _ _ _ _ | exact Kd.R_nil _ _ _ _ _⟩, ⟨by (with_reducible repeat (first | apply Kd.S_alloc | apply Kd.S_drewN | apply Kd.S_drew)); exact HO389.out⟩, ⟨by repeat (first | (with_reducible first | exact HB.out | apply bA | apply bN | apply bD) | exact HB.out)⟩⟩
  case round =>
   clear H'
   try clear c1
   try clear c2
   try clear p2
   try clear c3
   obtain ⟨x4_1, x15_1, rfl, HA, HK1, HO_4, HO_13, HB⟩ := hrel
   cases gk with
   | zero => exact absurd HA.out (by simp [spec_ChainsOfHand.l0])
   | succ k1 =>
    have H := HA.out
    clear HA
    simp only [spec_ChainsOfHand.l0] at H
    by_cases c8 : x15_1 < (t387.length : Int)
    ·rw [if_pos c8] at H
     have c8b0 : decide (x15_1 < (t387.length : Int)) = true := decide_eq_true c8
     clear c8
     by_cases c9 : 0 ≤ x15_1
     ·rw [if_pos c9] at H
      have c9b0 : decide (0 ≤ x15_1) = true := decide_eq_true c9
      clear c9
      by_cases c10 : x15_1 < (t387.length : Int)
      ·rw [if_pos c10] at H
       have c10b0 : decide (x15_1 < (t387.length : Int)) = true := decide_eq_true c10
       clear c10
       replace H := oB H
       obtain ⟨⟨t391, t392⟩, A110, H⟩ := H
       replace H : (if t392 = true then (if x4_1.length < 5864062014805 then (spec_ChainsOfHand.l0 k1 (x4_1 ++ [t391]) t387 (t387.length : Int) (wrap64 (x15_1 + 1))) else (none)) else (some (([] : List (List Int)), false))) = some (r1, r2) := H
       have A11 := aM A110
       clear A110
       by_cases c12 : t392 = true
       ·subst c12
        have H1 : (if x4_1.length < 5864062014805 then (spec_ChainsOfHand.l0 k1 (x4_1 ++ [t391]) t387 (t387.length : Int) (wrap64 (x15_1 + 1))) else (none)) = some (r1, r2) := by rw [if_pos rfl] at H; exact H
        clear H
        have H := H1
        clear H1
        by_cases c13 : x4_1.length < 5864062014805
        ·rw [if_pos c13] at H
         have LMc13 := aM c13
         clear c13
         obtain ⟨y395, hy395⟩ : ∃ y_ : List (List Int), y_ = (x4_1 ++ [t391]) := ⟨_, rfl⟩
         replace H : (spec_ChainsOfHand.l0 k1 y395 t387 (t387.length : Int) (wrap64 (x15_1 + 1))) = some (r1, r2) := by first | (rw [hy395]; with_reducible exact H) | (have H2_ := (Option.bind_some _ _).symm.trans H; rw [hy395]; with_reducible exact H2_) | (have H2_ := (Option.bind_some _ _).symm.trans H; with_reducible exact H2_) | with_reducible exact H | (rw [hy395]; exact H) | exact H
         have Ny395 := aM hy395
         clear hy395
         have H' := aM H
         clear H
         have p390 : 0 ≤ (x15_1 : Int) := oD (by first | (with_reducible assumption) | assumption)
         have q390 : x15_1 < (t387.length : Int) := oD (by first | (with_reducible assumption) | assumption)
         obtain ⟨ad390, A390_0, c390_0, e390, hx390_0, hl390_0, hi390_0⟩ := at_L3 (Kd.S_reads' HO_13.out).2.2 x15_1 p390 q390
         cases e390
         obtain ⟨ce390, hce390, hMe390, hcc390⟩ := Kd.S_get HO_13.out [] x15_1 p390 (by first | exact q390 | exact oD (by first | (with_reducible assumption) | assumption) | (have e_ := (Kd.S_reads' HO_13.out).1; omega))
         obtain ⟨ve390_0, rfl, ge390_0⟩ := hMe390
         have hv390_0 := hcc390 0 _ rfl
         rw [Nat.add_zero, show ((Kd.slice 41 k41)).sz = 1 from rfl, Nat.mul_one] at hv390_0
         replace hv390_0 := Option.some.inj (hv390_0.symm.trans hx390_0)
         rw [hv390_0] at ge390_0
         have HL390_0 := aM (show Kd.R k41 41 _ _ _ _ (rd_L3 t387 x15_1) from ge390_0)
         clear hv390_0 ge390_0
         clear hcc390 hce390
         have HR390_0 := aM hi390_0
         have HC390_0 := aM hl390_0
         clear hi390_0 hl390_0
         replace p390 := eq_true p390
         replace q390 := eq_true q390
         go_wp2_with (first | ((with_reducible refine gate_callee (f := 23) rfl ?_); refine goesL_ (some 21) rfl rfl Try.func23 (by kernel_rfl) rfl #[.slice A390_0 (rd_L3 t387 x15_1).length c390_0] rfl (by (try simp only [List.map_toArray, List.map_cons, List.map_nil]); first | done | rfl | (simp only [List.length_drop, List.length_take]; rfl)) ?_; (with_reducible refine (spec_whFirst.calls k1 _ _ (rd_L3 t387 x15_1) t391 true _ ?side1 ?side2 A11.out).mono ?_); (case side1 => repeat (first | exact (by repeat (first | (with_reducible exact HR390_0.out) | (with_reducible refine Kd.C_alloc ?_ _) | (with_reducible refine Kd.C_drewN ?_ _) | (with_reducible refine Kd.C_drew ?_) | exact HR390_0.out)) | (with_reducible refine Kd.C_alloc ?_ _) | (with_reducible refine Kd.C_drewN ?_ _) | (with_reducible refine Kd.C_drew ?_))); (case side2 => exact HC390_0.out); rintro e w14 ⟨v393, rfl, ho0, hb⟩; refine ⟨_, rfl, ?_⟩; have n0_ := aM (Kd.S_elder' (by (with_reducible repeat (first | apply Kd.S_alloc | apply Kd.S_drewN | apply Kd.S_drew)); exact HO_4.out) (Kd.R_base ho0) hb); have n1_ := aM (Kd.S_below (by (with_reducible repeat (first | apply Kd.S_alloc | apply Kd.S_drewN | apply Kd.S_drew)); exact HO_13.out) hb); have n2_ := aM (Kd.R_below (by (with_reducible repeat (first | apply rA | apply rN | apply rD)); exact HL390_0.out) hb); have n3_ := aM (Kd.R_lower ho0 (below_size (by repeat (first | (with_reducible first | exact HB.out | apply bA | apply bN | apply bD) | exact HB.out)))); have n4_ := aM (Kd.C_below (by repeat (first | (with_reducible exact HR390_0.out) | (with_reducible refine Kd.C_alloc ?_ _) | (with_reducible refine Kd.C_drewN ?_ _) | (with_reducible refine Kd.C_drew ?_) | exact HR390_0.out)) hb); have n5_ := aM (below_step (by repeat (first | (with_reducible first | exact HB.out | apply bA | apply bN | apply bD) | exact HB.out)) hb); clear HO_4; clear HO_13; clear HL390_0; clear HR390_0; clear HB; have HO_4 := n0_; have HO_13 := n1_; have HL390_0 := n2_; have HO394 := n3_; have HR390_0 := n4_; have HB := n5_; clear n0_ n1_ n2_ n3_ n4_ n5_; (try clear hb); (try clear hb2); (try clear hk); (try clear hi); (try clear ho0); obtain ⟨Ao16, co16, eo16⟩ := Kd.R_slice HO394.out; subst eo16) | ((with_reducible refine gate_builtin (b := .append) (xs := #[.tmp 26, .tmp 28]) rfl ?_); at_builtin; refine Kd.S_append (Kd.slice 3 (Kd.int .i64)) (w0 := w) w.heap.size rfl (.tmp 26) (.tmp 28) 34 24 (.slice none 0 0) 24 rfl Try.underlying34 info24 rfl (by decide) (by omega) u4 x4_1 t391 [.slice Ao16 t391.length co16] (fun _ => True) (fun k_ => some k_ = (.slice Ao16 t391.length co16 : Value).ownBlock) rfl rfl ?aP (fun k_ hk_ => ((Kd.R_mono (ok' := fun k_ => ((fun _ => True)) k_ ∧ some k_ ≠ (u4 : Value).ownBlock) (Kd.R_apart' (HO394.out) (Kd.S_typed HO_4.out) (by decide)) (fun k_ hk => ⟨trivial, hk.2⟩))).1 k_ hk_.symm) ?aF ?aO ?aB ?aS ?aL ?_; (case aP => exact Kd.M_row (Kd.R_mono (Kd.R_tight rfl (Kd.R_mono (ok' := fun k_ => ((fun _ => True)) k_ ∧ some k_ ≠ (u4 : Value).ownBlock) (Kd.R_apart' (HO394.out) (Kd.S_typed HO_4.out) (by decide)) (fun k_ hk => ⟨trivial, hk.2⟩))) (fun _ h_ => h_))); (case aB => exact (by repeat (first | (with_reducible first | exact HB.out | apply bA | apply bN | apply bD) | exact HB.out))); (case aF => exact (fun _ _ => trivial)); (case aO => exact (by (with_reducible repeat (first | apply Kd.S_alloc | apply Kd.S_drewN | apply Kd.S_drew)); exact Kd.S_mono HO_4.out (fun k_ hk => ⟨trivial, fun e_ => hk.2 e_⟩))); (case aS => exact (below_size (by repeat (first | (with_reducible first | exact HB.out | apply bA | apply bN | apply bD) | exact HB.out)))); (case aL => have := LMc13.out; omega); intro v396 w15 ho hb hg hat; rw [← Ny395.out] at ho; have n0_ := aM (Kd.S_over' (by (with_reducible repeat (first | apply Kd.S_alloc | apply Kd.S_drewN | apply Kd.S_drew)); exact HO_13.out) (Kd.S_typed (by (with_reducible repeat (first | apply Kd.S_alloc | apply Kd.S_drewN | apply Kd.S_drew)); exact HO_4.out)) (by decide) hg); have n1_ := aM (Kd.R_over' (by (with_reducible repeat (first | apply rA | apply rN | apply rD)); exact HL390_0.out) (Kd.S_typed (by (with_reducible repeat (first | apply Kd.S_alloc | apply Kd.S_drewN | apply Kd.S_drew)); exact HO_4.out)) (by decide) hg); have n2_ := aM (hb); have n3_ := aM (ho); clear HO_13; clear HL390_0; clear HB; clear HO_4; clear HO394; have HO_13 := n0_; have HL390_0 := n1_; have HB := n2_; have HO397 := n3_; clear n0_ n1_ n2_ n3_; clear ho hb hg hat))
         go_roundg k1
         case measure => have := HK1.out; omega
         case rel => exact ⟨(y395), (wrap64 (x15_1 + 1)), (by first | rfl | (simp; done) | (simp [*]; done)), H', ⟨by have := HK1.out; omega⟩, ⟨by (with_reducible repeat (first | apply Kd.S_alloc | apply Kd.S_drewN | apply Kd.S_drew)); exact HO397.out⟩, ⟨by (with_reducible repeat (first | apply Kd.S_alloc | apply Kd.S_drewN | apply Kd.S_drew)); exact HO_13.out⟩, ⟨by repeat (first | (with_reducible first | exact HB.out | apply bA | apply bN | apply bD) | exact HB.out)⟩⟩
        ·rw [if_neg c13] at H
         exact absurd H (by simp)
       ·replace c12 := Bool.eq_false_iff.mpr c12
        subst c12
        have H1 : (some (([] : List (List Int)), false)) = some (r1, r2) := by rw [if_neg (show ¬ (false = true) by decide)] at H; exact H
        clear H
        have H := H1
        clear H1
        simp only [Option.some.injEq, Prod.mk.injEq] at H
        obtain ⟨rfl, rfl⟩ := H
        have p390 : 0 ≤ (x15_1 : Int) := oD (by first | (with_reducible assumption) | assumption)
        have q390 : x15_1 < (t387.length : Int) := oD (by first | (with_reducible assumption) | assumption)
        obtain ⟨ad390, A390_0, c390_0, e390, hx390_0, hl390_0, hi390_0⟩ := at_L3 (Kd.S_reads' HO_13.out).2.2 x15_1 p390 q390
        cases e390
        obtain ⟨ce390, hce390, hMe390, hcc390⟩ := Kd.S_get HO_13.out [] x15_1 p390 (by first | exact q390 | exact oD (by first | (with_reducible assumption) | assumption) | (have e_ := (Kd.S_reads' HO_13.out).1; omega))
        obtain ⟨ve390_0, rfl, ge390_0⟩ := hMe390
        have hv390_0 := hcc390 0 _ rfl
        rw [Nat.add_zero, show ((Kd.slice 41 k41)).sz = 1 from rfl, Nat.mul_one] at hv390_0
        replace hv390_0 := Option.some.inj (hv390_0.symm.trans hx390_0)
        rw [hv390_0] at ge390_0
        have HL390_0 := aM (show Kd.R k41 41 _ _ _ _ (rd_L3 t387 x15_1) from ge390_0)
        clear hv390_0 ge390_0
        clear hcc390 hce390
        have HR390_0 := aM hi390_0
        have HC390_0 := aM hl390_0
        clear hi390_0 hl390_0
        replace p390 := eq_true p390
        replace q390 := eq_true q390
        go_wp2_with (first | ((with_reducible refine gate_callee (f := 23) rfl ?_); refine goesL_ (some 21) rfl rfl Try.func23 (by kernel_rfl) rfl #[.slice A390_0 (rd_L3 t387 x15_1).length c390_0] rfl (by (try simp only [List.map_toArray, List.map_cons, List.map_nil]); first | done | rfl | (simp only [List.length_drop, List.length_take]; rfl)) ?_; (with_reducible refine (spec_whFirst.calls k1 _ _ (rd_L3 t387 x15_1) t391 false _ ?side1 ?side2 A11.out).mono ?_); (case side1 => repeat (first | exact (by repeat (first | (with_reducible exact HR390_0.out) | (with_reducible refine Kd.C_alloc ?_ _) | (with_reducible refine Kd.C_drewN ?_ _) | (with_reducible refine Kd.C_drew ?_) | exact HR390_0.out)) | (with_reducible refine Kd.C_alloc ?_ _) | (with_reducible refine Kd.C_drewN ?_ _) | (with_reducible refine Kd.C_drew ?_))); (case side2 => exact HC390_0.out); rintro e w17 ⟨v393, rfl, ho0, hb⟩; refine ⟨_, rfl, ?_⟩; have n0_ := aM (Kd.S_elder' (by (with_reducible repeat (first | apply Kd.S_alloc | apply Kd.S_drewN | apply Kd.S_drew)); exact HO_4.out) (Kd.R_base ho0) hb); have n1_ := aM (Kd.S_below (by (with_reducible repeat (first | apply Kd.S_alloc | apply Kd.S_drewN | apply Kd.S_drew)); exact HO_13.out) hb); have n2_ := aM (Kd.R_below (by (with_reducible repeat (first | apply rA | apply rN | apply rD)); exact HL390_0.out) hb); have n3_ := aM (Kd.R_lower ho0 (below_size (by repeat (first | (with_reducible first | exact HB.out | apply bA | apply bN | apply bD) | exact HB.out)))); have n4_ := aM (Kd.C_below (by repeat (first | (with_reducible exact HR390_0.out) | (with_reducible refine Kd.C_alloc ?_ _) | (with_reducible refine Kd.C_drewN ?_ _) | (with_reducible refine Kd.C_drew ?_) | exact HR390_0.out)) hb); have n5_ := aM (below_step (by repeat (first | (with_reducible first | exact HB.out | apply bA | apply bN | apply bD) | exact HB.out)) hb); clear HO_4; clear HO_13; clear HL390_0; clear HR390_0; clear HB; have HO_4 := n0_; have HO_13 := n1_; have HL390_0 := n2_; have HO394 := n3_; have HR390_0 := n4_; have HB := n5_; clear n0_ n1_ n2_ n3_ n4_ n5_; (try clear hb); (try clear hb2); (try clear hk); (try clear hi); (try clear ho0)))
        go_ret2
        exact ⟨_, by first | rfl | (simp [errW_none, errW_some] <;> rfl) | (simp [*, errW_none, errW_some] <;> rfl), by first | exact Kd.S_nil _ _ _ _ _ | exact Kd.N_nil _ _ _ _ _ | exact Kd.V_nil _ _ _ _ _ | exact Kd.Q_nil _ _ _ _ _ | exact Kd.R_nil _ _ _ _ _, by repeat (first | (with_reducible first | exact HB.out | apply bA | apply bN | apply bD) | exact HB.out)⟩
      ·rw [if_neg c10] at H
       exact absurd H (by simp)
     ·rw [if_neg c9] at H
      exact absurd H (by simp)
    ·rw [if_neg c8] at H
     have c8b0 : decide (x15_1 < (t387.length : Int)) = false := decide_eq_false c8
     clear c8
     simp only [Option.some.injEq, Prod.mk.injEq] at H
     obtain ⟨rfl, rfl⟩ := H
     go_wp2
     go_ret2
     exact ⟨_, by first | rfl | (simp [errW_none, errW_some] <;> rfl) | (simp [*, errW_none, errW_some] <;> rfl), by (with_reducible repeat (first | apply Kd.S_alloc | apply Kd.S_drewN | apply Kd.S_drew)); exact HO_4.out, by repeat (first | (with_reducible first | exact HB.out | apply bA | apply bN | apply bD) | exact HB.out)⟩
 ·replace c3 := Bool.eq_false_iff.mpr c3
  subst c3
  have H1 : (some (([] : List (List Int)), false)) = some (r1, r2) := by rw [if_neg (show ¬ (false = true) by decide)] at H; exact H
  clear H
  have H := H1
  clear H1
  simp only [Option.some.injEq, Prod.mk.injEq] at H
  obtain ⟨rfl, rfl⟩ := H
  go_enter Try.func17, Try.ntmps17
  go_wp2_with (first | ((with_reducible refine gate_callee (f := 22) rfl ?_); refine goesL_ (some 10) rfl rfl Try.func22 (by kernel_rfl) rfl #[.slice A0 l0.length c0] rfl (by (try simp only [List.map_toArray, List.map_cons, List.map_nil]); first | done | rfl | (simp only [List.length_drop, List.length_take]; rfl)) ?_; (with_reducible refine (spec_tiHand.calls k _ _ l0 false _ ?side1 ?side2 A2.out).mono ?_); (case side1 => repeat (first | exact HR0.out | (with_reducible refine Kd.C_alloc ?_ _) | (with_reducible refine Kd.C_drewN ?_ _) | (with_reducible refine Kd.C_drew ?_))); (case side2 => exact HC0.out); rintro e w18 ⟨rfl, hb⟩; refine ⟨_, rfl, ?_⟩; have n0_ := aM (below_step (by repeat (first | (with_reducible first | exact HB.out | apply bA | apply bN | apply bD) | exact HB.out)) hb); clear HB; have HB := n0_; clear n0_; (try clear hb); (try clear hb2); (try clear hk); (try clear hi)))
  go_ret2
  exact ⟨_, by first | rfl | (simp [errW_none, errW_some] <;> rfl) | (simp [*, errW_none, errW_some] <;> rfl), by first | exact Kd.S_nil _ _ _ _ _ | exact Kd.N_nil _ _ _ _ _ | exact Kd.V_nil _ _ _ _ _ | exact Kd.Q_nil _ _ _ _ _ | exact Kd.R_nil _ _ _ _ _, by repeat (first | (with_reducible first | exact HB.out | apply bA | apply bN | apply bD) | exact HB.out)⟩

end

section
/-! ### impl_ChainsOfHand: function 18 -/
def impl_ChainsOfHand.l0 : Nat → List (List Int) → List (List (S41)) → Int → Int → Option ((List (List Int)) × Bool)
 | 0, _, _, _, _ => none
 | k + 1, x6, x19, x20, x21 => if x21 < x20 then (if 0 ≤ x21 then (if x21 < (x19.length : Int) then ((impl_FirstWhole.f k (rd_L3 x19 x21)).bind fun bt410 => (if bt410.2 = true then (if x6.length < 5864062014805 then (impl_ChainsOfHand.l0 k (x6 ++ [bt410.1]) x19 x20 (wrap64 (x21 + 1))) else (none)) else (some (([] : List (List Int)), false)))) else (none)) else (none)) else (some (x6, true))
def impl_ChainsOfHand.f (k : Nat) (l0 : List (S41)) : Option ((List (List Int)) × Bool) := (impl_PartsOfHand.f k l0).bind fun bt402 => (if bt402.2 = true then (impl_ChainsOfHand.l0 k (([] : List (List Int))) bt402.1 (bt402.1.length : Int) 0) else (some (([] : List (List Int)), false)))
theorem impl_ChainsOfHand.mono_l : ∀ k, (∀ y0 y1 y2 y3, LeO (impl_ChainsOfHand.l0 k y0 y1 y2 y3) (impl_ChainsOfHand.l0 (k + 1) y0 y1 y2 y3))
 | 0 => fun _ _ _ _ r h => by simp [impl_ChainsOfHand.l0] at h
 | k + 1 => by
  have ih0 := impl_ChainsOfHand.mono_l k
  ·intro y0 y1 y2 y3
   unfold impl_ChainsOfHand.l0
   repeat' first
   | (with_reducible exact ih0 _ _ _ _)
   | (with_reducible exact impl_FirstWhole.mono _ _)
   | (with_reducible exact impl_PartsOfHand.mono _ _)
   | (with_reducible exact LeO.refl _)
   | (with_reducible exact LeO.none _)
   | (with_reducible refine LeO.ite ?_ ?_)
   | (with_reducible refine LeO.bind ?_ (fun _ => ?_))
   | exact ih0 _ _ _ _
   | exact impl_FirstWhole.mono _ _
   | exact impl_PartsOfHand.mono _ _
   | exact LeO.none _
   | refine LeO.ite ?_ ?_
   | refine LeO.bind ?_ (fun _ => ?_)
theorem impl_ChainsOfHand.mono : ∀ a0 k, LeO (impl_ChainsOfHand.f k a0) (impl_ChainsOfHand.f (k + 1) a0) := by
 intro a0 k
 have ih0 := impl_ChainsOfHand.mono_l k
 unfold impl_ChainsOfHand.f
 repeat' first
   | (with_reducible exact ih0 _ _ _ _)
   | (with_reducible exact impl_FirstWhole.mono _ _)
   | (with_reducible exact impl_PartsOfHand.mono _ _)
   | (with_reducible exact LeO.refl _)
   | (with_reducible exact LeO.none _)
   | (with_reducible refine LeO.ite ?_ ?_)
   | (with_reducible refine LeO.bind ?_ (fun _ => ?_))
   | exact ih0 _ _ _ _
   | exact impl_FirstWhole.mono _ _
   | exact impl_PartsOfHand.mono _ _
   | exact LeO.none _
   | refine LeO.ite ?_ ?_
   | refine LeO.bind ?_ (fun _ => ?_)
set_option maxHeartbeats 8000000 in
set_option maxRecDepth 100000 in
theorem impl_ChainsOfHand.calls (k : Nat) (A0 : Option Addr) (c0 : Nat) (l0 : List (S41)) (r1 : List (List Int)) (r2 : Bool) (w : World) (hr0 : Kd.C k41 w A0 l0.length l0) (hc0 : l0.length ≤ c0) (h : impl_ChainsOfHand.f k l0 = some (r1, r2)) :
  Calls Try.prog 18 #[.slice A0 l0.length c0] w fun e w' => ∃ v0_ : Value, e = .returned (.tuple #[v0_, .bool r2]) ∧ Kd.S (Kd.slice 3 (Kd.int .i64)) 24 w' w.heap.size (fun _ => True) v0_ r1 ∧ Below w.heap.size w w' := by
 have HR0 := aM hr0
 have HC0 := aM hc0
 clear hr0 hc0
 have HB := aM (Below.refl w.heap.size w)
 have H : ((impl_PartsOfHand.f k l0).bind fun bt402 => (if bt402.2 = true then (impl_ChainsOfHand.l0 k (([] : List (List Int))) bt402.1 (bt402.1.length : Int) 0) else (some (([] : List (List Int)), false)))) = some (r1, r2) := h
 clear h
 replace H := oB H
 obtain ⟨⟨t402, t403⟩, A20, H⟩ := H
 replace H : (if t403 = true then (impl_ChainsOfHand.l0 k (([] : List (List Int))) t402 (t402.length : Int) 0) else (some (([] : List (List Int)), false))) = some (r1, r2) := H
 have A2 := aM A20
 clear A20
 by_cases c3 : t403 = true
 ·subst c3
  have H1 : (impl_ChainsOfHand.l0 k (([] : List (List Int))) t402 (t402.length : Int) 0) = some (r1, r2) := by rw [if_pos rfl] at H; exact H
  clear H
  have H := H1
  clear H1
  obtain ⟨y406, hy406⟩ : ∃ y_ : List (List Int), y_ = (([] : List (List Int))) := ⟨_, rfl⟩
  replace H : (impl_ChainsOfHand.l0 k y406 t402 (t402.length : Int) 0) = some (r1, r2) := by first | (rw [hy406]; with_reducible exact H) | (have H2_ := (Option.bind_some _ _).symm.trans H; rw [hy406]; with_reducible exact H2_) | (have H2_ := (Option.bind_some _ _).symm.trans H; with_reducible exact H2_) | with_reducible exact H | (rw [hy406]; exact H) | exact H
  have Ny406 := aM hy406
  clear hy406
  have H' := aM H
  clear H
  go_enter Try.func18, Try.ntmps18
  go_wp2_with (first | ((with_reducible refine gate_callee (f := 32) rfl ?_); refine goesL_ (some 13) rfl rfl Try.func32 (by kernel_rfl) rfl #[.slice A0 l0.length c0] rfl (by (try simp only [List.map_toArray, List.map_cons, List.map_nil]); first | done | rfl | (simp only [List.length_drop, List.length_take]; rfl)) ?_; (with_reducible refine (impl_PartsOfHand.calls k _ _ l0 t402 true _ ?side1 ?side2 A2.out).mono ?_); (case side1 => repeat (first | exact HR0.out | (with_reducible refine Kd.C_alloc ?_ _) | (with_reducible refine Kd.C_drewN ?_ _) | (with_reducible refine Kd.C_drew ?_))); (case side2 => exact HC0.out); rintro e w4 ⟨v404, rfl, ho0, hb⟩; refine ⟨_, rfl, ?_⟩; have n0_ := aM (Kd.S_lower ho0 (below_size (by repeat (first | (with_reducible first | exact HB.out | apply bA | apply bN | apply bD) | exact HB.out)))); have n1_ := aM (below_step (by repeat (first | (with_reducible first | exact HB.out | apply bA | apply bN | apply bD) | exact HB.out)) hb); clear HB; have HO405 := n0_; have HB := n1_; clear n0_ n1_; (try clear hb); (try clear hb2); (try clear hk); (try clear hi); (try clear ho0)) | ((with_reducible refine gate_dst (N := 18) rfl ?_); refine Kd.S_lit (Kd.slice 3 (Kd.int .i64)) _ 24 ?hg (N := 18) ?hd (xs := ([] : List (List Int))) (inner := []) (ok := fun _ => True) (okp := fun _ => True) ?hr ?hp (fun _ hk => hk) trivial (Below.refl _ _) (Nat.le_refl _) (by simp) ?_; (case hd => rfl); (case hg => rfl); (case hr => first | (go_simp; done) | (go_simp; rfl)); (case hp => exact (Reps.none _ _)); intro v407 w5 ho6 hb hg_ hnew_; clear hg_ hnew_; (first | rw [← Ny406.out] at ho6 | (simp only [Int.reduceToNat] at ho6; rw [← Ny406.out] at ho6)); have n0_ := aM (Kd.S_below (by (with_reducible repeat (first | apply Kd.S_alloc | apply Kd.S_drewN | apply Kd.S_drew)); exact HO405.out) hb); have n1_ := aM (Kd.S_lower ho6 (below_size (by repeat (first | (with_reducible first | exact HB.out | apply bA | apply bN | apply bD) | exact HB.out)))); have n2_ := aM (below_step (by repeat (first | (with_reducible first | exact HB.out | apply bA | apply bN | apply bD) | exact HB.out)) hb); clear HO405; clear HB; have HO405 := n0_; have HO408 := n1_; have HB := n2_; clear n0_ n1_ n2_; clear hb ho6; obtain ⟨Ao7, co7, eo7⟩ := Kd.S_slice HO405.out; subst eo7))
  go_loopg [6, 21] k (fun kq v6 v21 w' => ∃ (x6_1 : List (List Int)) (x21_1 : Int), v21 = .int .i64 x21_1 ∧ Aside0 (impl_ChainsOfHand.l0 kq x6_1 t402 (t402.length : Int) x21_1 = some (r1, r2)) ∧ Aside0 (kq ≤ k) ∧ Aside0 (Kd.S (Kd.slice 3 (Kd.int .i64)) 24 w' w.heap.size (fun _ => True) v6 x6_1) ∧ Aside0 (Kd.S (Kd.slice 41 k41) 27 w' w.heap.size (fun _ => True) (.slice Ao7 t402.length co7) t402) ∧ Aside0 (Below w.heap.size w w'))
  case atStart => exact ⟨(y406), (0), (by first | rfl | (simp; done) | (simp [*]; done)), H', ⟨Nat.le_refl _⟩, ⟨by (with_reducible repeat (first | apply Kd.S_alloc | apply Kd.S_drewN | apply Kd.S_drew)); exact HO408.out⟩, ⟨by (with_reducible repeat (first | apply Kd.S_alloc | apply Kd.S_drewN | apply Kd.S_drew)); exact HO405.out⟩, ⟨by repeat (first | (with_reducible first | exact HB.out | apply bA | apply bN | apply bD) | exact HB.out)⟩⟩
  case round =>
   clear H'
   try clear c1
   try clear p2
   try clear c3
   obtain ⟨x6_1, x21_1, rfl, HA, HK1, HO_6, HO_19, HB⟩ := hrel
   cases gk with
   | zero => exact absurd HA.out (by simp [impl_ChainsOfHand.l0])
   | succ k1 =>
    have H := HA.out
    clear HA
    simp only [impl_ChainsOfHand.l0] at H
    by_cases c8 : x21_1 < (t402.length : Int)
    ·rw [if_pos c8] at H
     have c8b0 : decide (x21_1 < (t402.length : Int)) = true := decide_eq_true c8
     clear c8
     by_cases c9 : 0 ≤ x21_1
     ·rw [if_pos c9] at H
      have c9b0 : decide (0 ≤ x21_1) = true := decide_eq_true c9
      clear c9
      by_cases c10 : x21_1 < (t402.length : Int)
      ·rw [if_pos c10] at H
       have c10b0 : decide (x21_1 < (t402.length : Int)) = true := decide_eq_true c10
       clear c10
       replace H := oB H
       obtain ⟨⟨t410, t411⟩, A110, H⟩ := H
       replace H : (if t411 = true then (if x6_1.length < 5864062014805 then (impl_ChainsOfHand.l0 k1 (x6_1 ++ [t410]) t402 (t402.length : Int) (wrap64 (x21_1 + 1))) else (none)) else (some (([] : List (List Int)), false))) = some (r1, r2) := H
       have A11 := aM A110
       clear A110
       by_cases c12 : t411 = true
       ·subst c12
        have H1 : (if x6_1.length < 5864062014805 then (impl_ChainsOfHand.l0 k1 (x6_1 ++ [t410]) t402 (t402.length : Int) (wrap64 (x21_1 + 1))) else (none)) = some (r1, r2) := by rw [if_pos rfl] at H; exact H
        clear H
        have H := H1
        clear H1
        by_cases c13 : x6_1.length < 5864062014805
        ·rw [if_pos c13] at H
         have LMc13 := aM c13
         clear c13
         obtain ⟨y414, hy414⟩ : ∃ y_ : List (List Int), y_ = (x6_1 ++ [t410]) := ⟨_, rfl⟩
         replace H : (impl_ChainsOfHand.l0 k1 y414 t402 (t402.length : Int) (wrap64 (x21_1 + 1))) = some (r1, r2) := by first | (rw [hy414]; with_reducible exact H) | (have H2_ := (Option.bind_some _ _).symm.trans H; rw [hy414]; with_reducible exact H2_) | (have H2_ := (Option.bind_some _ _).symm.trans H; with_reducible exact H2_) | with_reducible exact H | (rw [hy414]; exact H) | exact H
         have Ny414 := aM hy414
         clear hy414
         have H' := aM H
         clear H
         have p409 : 0 ≤ (x21_1 : Int) := oD (by first | (with_reducible assumption) | assumption)
         have q409 : x21_1 < (t402.length : Int) := oD (by first | (with_reducible assumption) | assumption)
         obtain ⟨ad409, A409_0, c409_0, e409, hx409_0, hl409_0, hi409_0⟩ := at_L3 (Kd.S_reads' HO_19.out).2.2 x21_1 p409 q409
         cases e409
         obtain ⟨ce409, hce409, hMe409, hcc409⟩ := Kd.S_get HO_19.out [] x21_1 p409 (by first | exact q409 | exact oD (by first | (with_reducible assumption) | assumption) | (have e_ := (Kd.S_reads' HO_19.out).1; omega))
         obtain ⟨ve409_0, rfl, ge409_0⟩ := hMe409
         have hv409_0 := hcc409 0 _ rfl
         rw [Nat.add_zero, show ((Kd.slice 41 k41)).sz = 1 from rfl, Nat.mul_one] at hv409_0
         replace hv409_0 := Option.some.inj (hv409_0.symm.trans hx409_0)
         rw [hv409_0] at ge409_0
         have HL409_0 := aM (show Kd.R k41 41 _ _ _ _ (rd_L3 t402 x21_1) from ge409_0)
         clear hv409_0 ge409_0
         clear hcc409 hce409
         have HR409_0 := aM hi409_0
         have HC409_0 := aM hl409_0
         clear hi409_0 hl409_0
         replace p409 := eq_true p409
         replace q409 := eq_true q409
         go_wp2_with (first | ((with_reducible refine gate_callee (f := 9) rfl ?_); refine goesL_ (some 27) rfl rfl Try.func9 (by kernel_rfl) rfl #[.slice A409_0 (rd_L3 t402 x21_1).length c409_0] rfl (by (try simp only [List.map_toArray, List.map_cons, List.map_nil]); first | done | rfl | (simp only [List.length_drop, List.length_take]; rfl)) ?_; (with_reducible refine (impl_FirstWhole.calls k1 _ _ (rd_L3 t402 x21_1) t410 true _ ?side1 ?side2 A11.out).mono ?_); (case side1 => repeat (first | exact (by repeat (first | (with_reducible exact HR409_0.out) | (with_reducible refine Kd.C_alloc ?_ _) | (with_reducible refine Kd.C_drewN ?_ _) | (with_reducible refine Kd.C_drew ?_) | exact HR409_0.out)) | (with_reducible refine Kd.C_alloc ?_ _) | (with_reducible refine Kd.C_drewN ?_ _) | (with_reducible refine Kd.C_drew ?_))); (case side2 => exact HC409_0.out); rintro e w14 ⟨v412, rfl, ho0, hb⟩; refine ⟨_, rfl, ?_⟩; have n0_ := aM (Kd.S_elder' (by (with_reducible repeat (first | apply Kd.S_alloc | apply Kd.S_drewN | apply Kd.S_drew)); exact HO_6.out) (Kd.R_base ho0) hb); have n1_ := aM (Kd.S_below (by (with_reducible repeat (first | apply Kd.S_alloc | apply Kd.S_drewN | apply Kd.S_drew)); exact HO_19.out) hb); have n2_ := aM (Kd.R_below (by (with_reducible repeat (first | apply rA | apply rN | apply rD)); exact HL409_0.out) hb); have n3_ := aM (Kd.R_lower ho0 (below_size (by repeat (first | (with_reducible first | exact HB.out | apply bA | apply bN | apply bD) | exact HB.out)))); have n4_ := aM (Kd.C_below (by repeat (first | (with_reducible exact HR409_0.out) | (with_reducible refine Kd.C_alloc ?_ _) | (with_reducible refine Kd.C_drewN ?_ _) | (with_reducible refine Kd.C_drew ?_) | exact HR409_0.out)) hb); have n5_ := aM (below_step (by repeat (first | (with_reducible first | exact HB.out | apply bA | apply bN | apply bD) | exact HB.out)) hb); clear HO_6; clear HO_19; clear HL409_0; clear HR409_0; clear HB; have HO_6 := n0_; have HO_19 := n1_; have HL409_0 := n2_; have HO413 := n3_; have HR409_0 := n4_; have HB := n5_; clear n0_ n1_ n2_ n3_ n4_ n5_; (try clear hb); (try clear hb2); (try clear hk); (try clear hi); (try clear ho0); obtain ⟨Ao16, co16, eo16⟩ := Kd.R_slice HO413.out; subst eo16) | ((with_reducible refine gate_builtin (b := .append) (xs := #[.tmp 32, .tmp 34]) rfl ?_); at_builtin; refine Kd.S_append (Kd.slice 3 (Kd.int .i64)) (w0 := w) w.heap.size rfl (.tmp 32) (.tmp 34) 34 24 (.slice none 0 0) 24 rfl Try.underlying34 info24 rfl (by decide) (by omega) u6 x6_1 t410 [.slice Ao16 t410.length co16] (fun _ => True) (fun k_ => some k_ = (.slice Ao16 t410.length co16 : Value).ownBlock) rfl rfl ?aP (fun k_ hk_ => ((Kd.R_mono (ok' := fun k_ => ((fun _ => True)) k_ ∧ some k_ ≠ (u6 : Value).ownBlock) (Kd.R_apart' (HO413.out) (Kd.S_typed HO_6.out) (by decide)) (fun k_ hk => ⟨trivial, hk.2⟩))).1 k_ hk_.symm) ?aF ?aO ?aB ?aS ?aL ?_; (case aP => exact Kd.M_row (Kd.R_mono (Kd.R_tight rfl (Kd.R_mono (ok' := fun k_ => ((fun _ => True)) k_ ∧ some k_ ≠ (u6 : Value).ownBlock) (Kd.R_apart' (HO413.out) (Kd.S_typed HO_6.out) (by decide)) (fun k_ hk => ⟨trivial, hk.2⟩))) (fun _ h_ => h_))); (case aB => exact (by repeat (first | (with_reducible first | exact HB.out | apply bA | apply bN | apply bD) | exact HB.out))); (case aF => exact (fun _ _ => trivial)); (case aO => exact (by (with_reducible repeat (first | apply Kd.S_alloc | apply Kd.S_drewN | apply Kd.S_drew)); exact Kd.S_mono HO_6.out (fun k_ hk => ⟨trivial, fun e_ => hk.2 e_⟩))); (case aS => exact (below_size (by repeat (first | (with_reducible first | exact HB.out | apply bA | apply bN | apply bD) | exact HB.out)))); (case aL => have := LMc13.out; omega); intro v415 w15 ho hb hg hat; rw [← Ny414.out] at ho; have n0_ := aM (Kd.S_over' (by (with_reducible repeat (first | apply Kd.S_alloc | apply Kd.S_drewN | apply Kd.S_drew)); exact HO_19.out) (Kd.S_typed (by (with_reducible repeat (first | apply Kd.S_alloc | apply Kd.S_drewN | apply Kd.S_drew)); exact HO_6.out)) (by decide) hg); have n1_ := aM (Kd.R_over' (by (with_reducible repeat (first | apply rA | apply rN | apply rD)); exact HL409_0.out) (Kd.S_typed (by (with_reducible repeat (first | apply Kd.S_alloc | apply Kd.S_drewN | apply Kd.S_drew)); exact HO_6.out)) (by decide) hg); have n2_ := aM (hb); have n3_ := aM (ho); clear HO_19; clear HL409_0; clear HB; clear HO_6; clear HO413; have HO_19 := n0_; have HL409_0 := n1_; have HB := n2_; have HO416 := n3_; clear n0_ n1_ n2_ n3_; clear ho hb hg hat))
         go_roundg k1
         case measure => have := HK1.out; omega
         case rel => exact ⟨(y414), (wrap64 (x21_1 + 1)), (by first | rfl | (simp; done) | (simp [*]; done)), H', ⟨by have := HK1.out; omega⟩, ⟨by (with_reducible repeat (first | apply Kd.S_alloc | apply Kd.S_drewN | apply Kd.S_drew)); exact HO416.out⟩, ⟨by (with_reducible repeat (first | apply Kd.S_alloc | apply Kd.S_drewN | apply Kd.S_drew)); exact HO_19.out⟩, ⟨by repeat (first | (with_reducible first | exact HB.out | apply bA | apply bN | apply bD) | exact HB.out)⟩⟩
        ·rw [if_neg c13] at H
         exact absurd H (by simp)
       ·replace c12 := Bool.eq_false_iff.mpr c12
        subst c12
        have H1 : (some (([] : List (List Int)), false)) = some (r1, r2) := by rw [if_neg (show ¬ (false = true) by decide)] at H; exact H
        clear H
        have H := H1
        clear H1
        simp only [Option.some.injEq, Prod.mk.injEq] at H
        obtain ⟨rfl, rfl⟩ := H
        have p409 : 0 ≤ (x21_1 : Int) := oD (by first | (with_reducible assumption) | assumption)
        have q409 : x21_1 < (t402.length : Int) := oD (by first | (with_reducible assumption) | assumption)
        obtain ⟨ad409, A409_0, c409_0, e409, hx409_0, hl409_0, hi409_0⟩ := at_L3 (Kd.S_reads' HO_19.out).2.2 x21_1 p409 q409
        cases e409
        obtain ⟨ce409, hce409, hMe409, hcc409⟩ := Kd.S_get HO_19.out [] x21_1 p409 (by first | exact q409 | exact oD (by first | (with_reducible assumption) | assumption) | (have e_ := (Kd.S_reads' HO_19.out).1; omega))
        obtain ⟨ve409_0, rfl, ge409_0⟩ := hMe409
        have hv409_0 := hcc409 0 _ rfl
        rw [Nat.add_zero, show ((Kd.slice 41 k41)).sz = 1 from rfl, Nat.mul_one] at hv409_0
        replace hv409_0 := Option.some.inj (hv409_0.symm.trans hx409_0)
        rw [hv409_0] at ge409_0
        have HL409_0 := aM (show Kd.R k41 41 _ _ _ _ (rd_L3 t402 x21_1) from ge409_0)
        clear hv409_0 ge409_0
        clear hcc409 hce409
        have HR409_0 := aM hi409_0
        have HC409_0 := aM hl409_0
        clear hi409_0 hl409_0
        replace p409 := eq_true p409
        replace q409 := eq_true q409
        go_wp2_with (first | ((with_reducible refine gate_callee (f := 9) rfl ?_); refine goesL_ (some 27) rfl rfl Try.func9 (by kernel_rfl) rfl #[.slice A409_0 (rd_L3 t402 x21_1).length c409_0] rfl (by (try simp only [List.map_toArray, List.map_cons, List.map_nil]); first | done | rfl | (simp only [List.length_drop, List.length_take]; rfl)) ?_; (with_reducible refine (impl_FirstWhole.calls k1 _ _ (rd_L3 t402 x21_1) t410 false _ ?side1 ?side2 A11.out).mono ?_); (case side1 => repeat (first | exact (by repeat (first | (with_reducible exact HR409_0.out) | (with_reducible refine Kd.C_alloc ?_ _) | (with_reducible refine Kd.C_drewN ?_ _) | (with_reducible refine Kd.C_drew ?_) | exact HR409_0.out)) | (with_reducible refine Kd.C_alloc ?_ _) | (with_reducible refine Kd.C_drewN ?_ _) | (with_reducible refine Kd.C_drew ?_))); (case side2 => exact HC409_0.out); rintro e w17 ⟨v412, rfl, ho0, hb⟩; refine ⟨_, rfl, ?_⟩; have n0_ := aM (Kd.S_elder' (by (with_reducible repeat (first | apply Kd.S_alloc | apply Kd.S_drewN | apply Kd.S_drew)); exact HO_6.out) (Kd.R_base ho0) hb); have n1_ := aM (Kd.S_below (by (with_reducible repeat (first | apply Kd.S_alloc | apply Kd.S_drewN | apply Kd.S_drew)); exact HO_19.out) hb); have n2_ := aM (Kd.R_below (by (with_reducible repeat (first | apply rA | apply rN | apply rD)); exact HL409_0.out) hb); have n3_ := aM (Kd.R_lower ho0 (below_size (by repeat (first | (with_reducible first | exact HB.out | apply bA | apply bN | apply bD) | exact HB.out)))); have n4_ := aM (Kd.C_below (by repeat (first | (with_reducible exact HR409_0.out) | (with_reducible refine Kd.C_alloc ?_ _) | (with_reducible refine Kd.C_drewN ?_ _) | (with_reducible refine Kd.C_drew ?_) | exact HR409_0.out)) hb); have n5_ := aM (below_step (by repeat (first | (with_reducible first | exact HB.out | apply bA | apply bN | apply bD) | exact HB.out)) hb); clear HO_6; clear HO_19; clear HL409_0; clear HR409_0; clear HB; have HO_6 := n0_; have HO_19 := n1_; have HL409_0 := n2_; have HO413 := n3_; have HR409_0 := n4_; have HB := n5_; clear n0_ n1_ n2_ n3_ n4_ n5_; (try clear hb); (try clear hb2); (try clear hk); (try clear hi); (try clear ho0)))
        go_ret2
        exact ⟨_, by first | rfl | (simp [errW_none, errW_some] <;> rfl) | (simp [*, errW_none, errW_some] <;> rfl), by first | exact Kd.S_nil _ _ _ _ _ | exact Kd.N_nil _ _ _ _ _ | exact Kd.V_nil _ _ _ _ _ | exact Kd.Q_nil _ _ _ _ _ | exact Kd.R_nil _ _ _ _ _, by repeat (first | (with_reducible first | exact HB.out | apply bA | apply bN | apply bD) | exact HB.out)⟩
      ·rw [if_neg c10] at H
       exact absurd H (by simp)
     ·rw [if_neg c9] at H
      exact absurd H (by simp)
    ·rw [if_neg c8] at H
     have c8b0 : decide (x21_1 < (t402.length : Int)) = false := decide_eq_false c8
     clear c8
     simp only [Option.some.injEq, Prod.mk.injEq] at H
     obtain ⟨rfl, rfl⟩ := H
     go_wp2
     go_ret2
     exact ⟨_, by first | rfl | (simp [errW_none, errW_some] <;> rfl) | (simp [*, errW_none, errW_some] <;> rfl), by (with_reducible repeat (first | apply Kd.S_alloc | apply Kd.S_drewN | apply Kd.S_drew)); exact HO_6.out, by repeat (first | (with_reducible first | exact HB.out | apply bA | apply bN | apply bD) | exact HB.out)⟩
 ·replace c3 := Bool.eq_false_iff.mpr c3
  subst c3
  have H1 : (some (([] : List (List Int)), false)) = some (r1, r2) := by rw [if_neg (show ¬ (false = true) by decide)] at H; exact H
  clear H
  have H := H1
  clear H1
  simp only [Option.some.injEq, Prod.mk.injEq] at H
  obtain ⟨rfl, rfl⟩ := H
  go_enter Try.func18, Try.ntmps18
  go_wp2_with (first | ((with_reducible refine gate_callee (f := 32) rfl ?_); refine goesL_ (some 13) rfl rfl Try.func32 (by kernel_rfl) rfl #[.slice A0 l0.length c0] rfl (by (try simp only [List.map_toArray, List.map_cons, List.map_nil]); first | done | rfl | (simp only [List.length_drop, List.length_take]; rfl)) ?_; (with_reducible refine (impl_PartsOfHand.calls k _ _ l0 t402 false _ ?side1 ?side2 A2.out).mono ?_); (case side1 => repeat (first | exact HR0.out | (with_reducible refine Kd.C_alloc ?_ _) | (with_reducible refine Kd.C_drewN ?_ _) | (with_reducible refine Kd.C_drew ?_))); (case side2 => exact HC0.out); rintro e w18 ⟨v404, rfl, ho0, hb⟩; refine ⟨_, rfl, ?_⟩; have n0_ := aM (Kd.S_lower ho0 (below_size (by repeat (first | (with_reducible first | exact HB.out | apply bA | apply bN | apply bD) | exact HB.out)))); have n1_ := aM (below_step (by repeat (first | (with_reducible first | exact HB.out | apply bA | apply bN | apply bD) | exact HB.out)) hb); clear HB; have HO405 := n0_; have HB := n1_; clear n0_ n1_; (try clear hb); (try clear hb2); (try clear hk); (try clear hi); (try clear ho0)))
  go_ret2
  exact ⟨_, by first | rfl | (simp [errW_none, errW_some] <;> rfl) | (simp [*, errW_none, errW_some] <;> rfl), by first | exact Kd.S_nil _ _ _ _ _ | exact Kd.N_nil _ _ _ _ _ | exact Kd.V_nil _ _ _ _ _ | exact Kd.Q_nil _ _ _ _ _ | exact Kd.R_nil _ _ _ _ _, by repeat (first | (with_reducible first | exact HB.out | apply bA | apply bN | apply bD) | exact HB.out)⟩

end

end Go.Proofs.Ytcomlipkmcphfaa.P
