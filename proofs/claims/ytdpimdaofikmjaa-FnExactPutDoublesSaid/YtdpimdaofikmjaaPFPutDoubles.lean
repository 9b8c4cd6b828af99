-- Printed by a program of this session (wip/myprint.py, which drives the kit's print): what one function of the program does, and the proof that its call does so.
import Derived.Lib.SliceRun
import Derived.WalkSpells
import Derived.Test.YtdpimdaofikmjaaP0
import Derived.Test.YtdpimdaofikmjaaPIb
import Derived.Test.YtdpimdaofikmjaaPIc
import Derived.Test.YtdpimdaofikmjaaPIf
import Derived.Test.YtdpimdaofikmjaaPIg
import Derived.Test.YtdpimdaofikmjaaPIn
import Derived.Test.YtdpimdaofikmjaaPIr
import Derived.Test.YtdpimdaofikmjaaPSa
import Derived.Test.YtdpimdaofikmjaaPSd
namespace Go.Proofs.Ytdpimdaofikmjaa.P
open Go.RowKit Go.Proofs.YtdpimdaofikmjaaW.PrintWords Go.Proofs.YtdpimdaofikmjaaW.PrintLast Go.Proofs.YtdpimdaofikmjaaW.PrintMore
attribute [local go_sem] max2_int min2_int max_two min_two max_three min_three max_four min_four   -- for this text's walks alone
set_option linter.unusedVariables false
set_option linter.unusedSimpArgs false

section
/-! ### spec_PutDoubles: function 67 -/
mutual
def spec_PutDoubles.j0 : Nat → List Int → List (S67) → Bool → Option (List Int × Bool)
  | 0, _, _, _ => none
  | k + 1, x0, x1, x16 => if x16 = true then (some (([] : List Int), false)) else ((spec_l1Own.f x0).bind fun t1133 => (spec_PutDoubles.l0 k x0 x1 t1133 0))
def spec_PutDoubles.l0 : Nat → List Int → List (S67) → List Int → Int → Option (List Int × Bool)
  | 0, _, _, _, _ => none
  | k + 1, x0, x1, x6, x7 => if x7 ≤ 9 then ((spec_tiOf.f x7 x7).bind fun bt1136 => ((spec_tiPlace.f k x1 bt1136.1 bt1136.2).bind fun t1139 => (if t1139 ≥ 0 then ((spec_haTiles.f k x0).bind fun t1140 => ((spec_tiPlace.f k t1140 bt1136.1 bt1136.2).bind fun t1143 => (if t1143 < 0 then ((spec_l1Has.f k x0 x7).bind fun t1144 => (if t1144 = true then ((spec_haPut.f k x6 x7).bind fun t1145 => (spec_PutDoubles.l0 k x0 x1 t1145 (wrap64 (x7 + 1)))) else (spec_PutDoubles.l0 k x0 x1 x6 (wrap64 (x7 + 1))))) else (spec_PutDoubles.l0 k x0 x1 x6 (wrap64 (x7 + 1)))))) else (spec_PutDoubles.l0 k x0 x1 x6 (wrap64 (x7 + 1)))))) else (some (x6, true))
end
def spec_PutDoubles.f (k : Nat) (l0 : List Int) (l1 : List (S67)) : Option (List Int × Bool) := (spec_haGood.f k l0).bind fun t1131 => (if t1131 = true then ((spec_tiHand.f k l1).bind fun t1132 => (spec_PutDoubles.j0 k l0 l1 (!t1132))) else (spec_PutDoubles.j0 k l0 l1 true))
theorem spec_PutDoubles.mono_l : ∀ k, (∀ y0 y1 y2, LeO (spec_PutDoubles.j0 k y0 y1 y2) (spec_PutDoubles.j0 (k + 1) y0 y1 y2)) ∧ (∀ y0 y1 y2 y3, LeO (spec_PutDoubles.l0 k y0 y1 y2 y3) (spec_PutDoubles.l0 (k + 1) y0 y1 y2 y3))
  | 0 => ⟨fun _ _ _ r h => by simp [spec_PutDoubles.j0] at h, fun _ _ _ _ r h => by simp [spec_PutDoubles.l0] at h⟩
  | k + 1 => by
    obtain ⟨ih0, ih1⟩ := spec_PutDoubles.mono_l k
    refine ⟨?_, ?_⟩
    · intro y0 y1 y2
      unfold spec_PutDoubles.j0
      repeat' first
      | (with_reducible exact ih0 _ _ _)
      | (with_reducible exact ih1 _ _ _ _)
      | (with_reducible exact spec_haGood.mono _ _)
      | (with_reducible exact spec_haPut.mono _ _ _)
      | (with_reducible exact spec_haTiles.mono _ _)
      | (with_reducible exact spec_l1Has.mono _ _ _)
      | (with_reducible exact spec_tiHand.mono _ _)
      | (with_reducible exact spec_tiPlace.mono _ _ _ _)
      | (with_reducible exact LeO.refl _)
      | (with_reducible exact LeO.none _)
      | (with_reducible refine LeO.ite ?_ ?_)
      | (with_reducible refine LeO.bind ?_ (fun _ => ?_))
      | exact ih0 _ _ _
      | exact ih1 _ _ _ _
      | exact spec_haGood.mono _ _
      | exact spec_haPut.mono _ _ _
      | exact spec_haTiles.mono _ _
      | exact spec_l1Has.mono _ _ _
      | exact spec_tiHand.mono _ _
      | exact spec_tiPlace.mono _ _ _ _
      | exact LeO.none _
      | refine LeO.ite ?_ ?_
      | refine LeO.bind ?_ (fun _ => ?_)
    · intro y0 y1 y2 y3
      unfold spec_PutDoubles.l0
      repeat' first
      | (with_reducible exact ih0 _ _ _)
      | (with_reducible exact ih1 _ _ _ _)
      | (with_reducible exact spec_haGood.mono _ _)
      | (with_reducible exact spec_haPut.mono _ _ _)
      | (with_reducible exact spec_haTiles.mono _ _)
      | (with_reducible exact spec_l1Has.mono _ _ _)
      | (with_reducible exact spec_tiHand.mono _ _)
      | (with_reducible exact spec_tiPlace.mono _ _ _ _)
      | (with_reducible exact LeO.refl _)
      | (with_reducible exact LeO.none _)
      | (with_reducible refine LeO.ite ?_ ?_)
      | (with_reducible refine LeO.bind ?_ (fun _ => ?_))
      | exact ih0 _ _ _
      | exact ih1 _ _ _ _
      | exact spec_haGood.mono _ _
      | exact spec_haPut.mono _ _ _
      | exact spec_haTiles.mono _ _
      | exact spec_l1Has.mono _ _ _
      | exact spec_tiHand.mono _ _
      | exact spec_tiPlace.mono _ _ _ _
      | exact LeO.none _
      | refine LeO.ite ?_ ?_
      | refine LeO.bind ?_ (fun _ => ?_)
theorem spec_PutDoubles.mono : ∀ a0 a1 k, LeO (spec_PutDoubles.f k a0 a1) (spec_PutDoubles.f (k + 1) a0 a1) := by
  intro a0 a1 k
  obtain ⟨ih0, ih1⟩ := spec_PutDoubles.mono_l k
  unfold spec_PutDoubles.f
  repeat' first
      | (with_reducible exact ih0 _ _ _)
      | (with_reducible exact ih1 _ _ _ _)
      | (with_reducible exact spec_haGood.mono _ _)
      | (with_reducible exact spec_haPut.mono _ _ _)
      | (with_reducible exact spec_haTiles.mono _ _)
      | (with_reducible exact spec_l1Has.mono _ _ _)
      | (with_reducible exact spec_tiHand.mono _ _)
      | (with_reducible exact spec_tiPlace.mono _ _ _ _)
      | (with_reducible exact LeO.refl _)
      | (with_reducible exact LeO.none _)
      | (with_reducible refine LeO.ite ?_ ?_)
      | (with_reducible refine LeO.bind ?_ (fun _ => ?_))
      | exact ih0 _ _ _
      | exact ih1 _ _ _ _
      | exact spec_haGood.mono _ _
      | exact spec_haPut.mono _ _ _
      | exact spec_haTiles.mono _ _
      | exact spec_l1Has.mono _ _ _
      | exact spec_tiHand.mono _ _
      | exact spec_tiPlace.mono _ _ _ _
      | exact LeO.none _
      | refine LeO.ite ?_ ?_
      | refine LeO.bind ?_ (fun _ => ?_)
def spec_PutDoubles.T8 : Bool × List (List Nat × List Nat) := (true, [([], []), ([], []), ([0, 1], [0, 1]), ([2], [2]), ([3, 2], [3]), ([4], [4]), ([5, 4, 4], [4, 5]), ([4], [4]), ([6, 7, 6, 4], [4, 6, 7]), ([8, 4], [4, 8]), ([4, 9], [4, 9]), ([10, 8], [10]), ([11], [11]), ([11], [11]), ([12, 13, 11, 11], [11, 12, 13]), ([11, 14], [11, 14])])
def spec_PutDoubles.B8 : List Nat := [0, 0, 3, 7, 15, 31, 63, 31, 255, 511, 1023, 2047, 4095, 4095, 16383, 32767]
theorem spec_PutDoubles.tab8 : rtab .any (opsOf Try.f67 8) = spec_PutDoubles.T8 := by kernel_rfl
theorem spec_PutDoubles.bits8 : waitsOk spec_PutDoubles.T8.2 spec_PutDoubles.B8 = true := by kernel_rfl
set_option maxHeartbeats 8000000 in
set_option maxRecDepth 100000 in
theorem spec_PutDoubles.calls (k : Nat) (A0 : Option Addr) (c0 : Nat) (l0 : List Int) (A1 : Option Addr) (c1 : Nat) (l1 : List (S67)) (r1 : List Int) (r2 : Bool) (w : World) (hr0 : Kd.C (Kd.int .i64) w A0 l0.length l0) (hc0 : l0.length ≤ c0) (hr1 : Kd.C k67 w A1 l1.length l1) (hc1 : l1.length ≤ c1) (h : spec_PutDoubles.f k l0 l1 = some (r1, r2)) :
    Calls Try.prog 67 #[.slice A0 l0.length c0, .slice A1 l1.length c1] w fun e w' => ∃ v0_ : Value, e = .returned (.tuple #[v0_, .bool r2]) ∧ Kd.R (Kd.int .i64) 3 w' w.heap.size (fun _ => True) v0_ r1 ∧ Below w.heap.size w w' := by
  have hu67 := Try.underlying67
  have HR0 := Aside0.mk hr0
  have HC0 := Aside0.mk hc0
  clear hr0 hc0
  have HR1 := Aside0.mk hr1
  have HC1 := Aside0.mk hc1
  clear hr1 hc1
  have HB := Aside0.mk (Below.refl w.heap.size w)
  have H : ((spec_haGood.f k l0).bind fun t1131 => (if t1131 = true then ((spec_tiHand.f k l1).bind fun t1132 => (spec_PutDoubles.j0 k l0 l1 (!t1132))) else (spec_PutDoubles.j0 k l0 l1 true))) = some (r1, r2) := h
  clear h
  have HC3 := Aside0.mk H
  clear H
  go_enter Try.func67, Try.ntmps67
  go_upto_region 1 with (fail)
  go_cut [16] (fun v16 wc => ∃ (kq : Nat) (x16_2 : Bool), v16 = .bool x16_2 ∧ Aside0 (spec_PutDoubles.j0 kq l0 l1 x16_2 = some (r1, r2)) ∧ Aside0 (kq ≤ k) ∧ Aside0 (Below w.heap.size w wc))
  case first =>
    have H := HC3.out
    clear HC3
    replace H := Option.bind_eq_some_iff.mp H
    obtain ⟨t1131, A40, H⟩ := H
    replace H : (if t1131 = true then ((spec_tiHand.f k l1).bind fun t1132 => (spec_PutDoubles.j0 k l0 l1 (!t1132))) else (spec_PutDoubles.j0 k l0 l1 true)) = some (r1, r2) := H
    have A4 := Aside0.mk A40
    clear A40
    by_cases c5 : t1131 = true
    · subst c5
      have H1 : ((spec_tiHand.f k l1).bind fun t1132 => (spec_PutDoubles.j0 k l0 l1 (!t1132))) = some (r1, r2) := by rw [if_pos rfl] at H; exact H
      clear H
      have H := H1
      clear H1
      replace H := Option.bind_eq_some_iff.mp H
      obtain ⟨t1132, A60, H⟩ := H
      replace H : (spec_PutDoubles.j0 k l0 l1 (!t1132)) = some (r1, r2) := H
      have A6 := Aside0.mk A60
      clear A60
      have H' := Aside0.mk H
      clear H
      go_wp2_with (first | ((with_reducible refine gate_callee (f := 108) rfl ?_); refine goesL_ (some 10) rfl rfl Try.func108 (by kernel_rfl) rfl #[.slice A0 l0.length c0] rfl (by (try simp only [List.map_toArray, List.map_cons, List.map_nil]); first | done | rfl | (simp only [List.length_drop, List.length_take]; rfl)) ?_; (with_reducible refine (spec_haGood.calls k _ _ l0 true _ ?side1 ?side2 A4.out).mono ?_); (case side1 => repeat (first | exact (Kd.C_below HR0.out HB.out) | (with_reducible refine Kd.C_alloc ?_ _) | (with_reducible refine Kd.C_drewN ?_ _) | (with_reducible refine Kd.C_drew ?_))); (case side2 => exact HC0.out); rintro e w7 ⟨rfl, hb⟩; refine ⟨_, rfl, ?_⟩; have n0_ := Aside0.mk (below_step (by repeat (first | (with_reducible first | exact HB.out | apply below_alloc | apply pw_below_drewN | apply below_drew1) | exact HB.out)) hb); clear HB; have HB := n0_; clear n0_; (try clear hb); (try clear hb2); (try clear hk); (try clear hi)) | (go_at_call 69; (with_reducible refine (spec_tiHand.calls k _ _ l1 t1132 _ ?side1 ?side2 A6.out).mono ?_); (case side1 => repeat (first | exact (Kd.C_below HR1.out HB.out) | (with_reducible refine Kd.C_alloc ?_ _) | (with_reducible refine Kd.C_drewN ?_ _) | (with_reducible refine Kd.C_drew ?_))); (case side2 => exact HC1.out); rintro e w8 ⟨rfl, hb⟩; have n0_ := Aside0.mk (below_step (by repeat (first | (with_reducible first | exact HB.out | apply below_alloc | apply pw_below_drewN | apply below_drew1) | exact HB.out)) hb); clear HB; have HB := n0_; clear n0_; (try clear hb); (try clear hb2); (try clear hk); (try clear hi)))
      go_meet
      case rel => exact ⟨_, (!t1132), (by first | rfl | (simp; done) | (simp [*]; done)), H', ⟨by first | omega | exact Nat.le_refl _⟩, ⟨by repeat (first | (with_reducible first | exact HB.out | apply below_alloc | apply pw_below_drewN | apply below_drew1) | exact HB.out)⟩⟩
    · replace c5 := Bool.eq_false_iff.mpr c5
      subst c5
      have H1 : (spec_PutDoubles.j0 k l0 l1 true) = some (r1, r2) := by rw [if_neg (show ¬ (false = true) by decide)] at H; exact H
      clear H
      have H := H1
      clear H1
      have H' := Aside0.mk H
      clear H
      go_wp2_with (first | ((with_reducible refine gate_callee (f := 108) rfl ?_); refine goesL_ (some 10) rfl rfl Try.func108 (by kernel_rfl) rfl #[.slice A0 l0.length c0] rfl (by (try simp only [List.map_toArray, List.map_cons, List.map_nil]); first | done | rfl | (simp only [List.length_drop, List.length_take]; rfl)) ?_; (with_reducible refine (spec_haGood.calls k _ _ l0 false _ ?side1 ?side2 A4.out).mono ?_); (case side1 => repeat (first | exact (Kd.C_below HR0.out HB.out) | (with_reducible refine Kd.C_alloc ?_ _) | (with_reducible refine Kd.C_drewN ?_ _) | (with_reducible refine Kd.C_drew ?_))); (case side2 => exact HC0.out); rintro e w9 ⟨rfl, hb⟩; refine ⟨_, rfl, ?_⟩; have n0_ := Aside0.mk (below_step (by repeat (first | (with_reducible first | exact HB.out | apply below_alloc | apply pw_below_drewN | apply below_drew1) | exact HB.out)) hb); clear HB; have HB := n0_; clear n0_; (try clear hb); (try clear hb2); (try clear hk); (try clear hi)))
      go_meet
      case rel => exact ⟨_, (true), (by first | rfl | (simp; done) | (simp [*]; done)), H', ⟨by first | omega | exact Nat.le_refl _⟩, ⟨by repeat (first | (with_reducible first | exact HB.out | apply below_alloc | apply pw_below_drewN | apply below_drew1) | exact HB.out)⟩⟩
  case rest =>
    clear HC3
    try clear c1
    try clear p2
    try clear c5
    try clear c6
    obtain ⟨kq, x16_2, rfl, HA, HJ2, HB⟩ := hcut
    cases kq with
    | zero => exact absurd HA.out (by simp [spec_PutDoubles.j0])
    | succ kj2 =>
      have H := HA.out
      clear HA
      simp only [spec_PutDoubles.j0] at H
      by_cases c10 : x16_2 = true
      · subst c10
        have H1 : (some (([] : List Int), false)) = some (r1, r2) := by rw [if_pos rfl] at H; exact H
        clear H
        have H := H1
        clear H1
        simp only [Option.some.injEq, Prod.mk.injEq] at H
        obtain ⟨rfl, rfl⟩ := H
        go_wp2
        go_ret2
        exact ⟨_, by first | rfl | (simp [errW_none, errW_some] <;> rfl) | (simp [*, errW_none, errW_some] <;> rfl), by first | exact Kd.R_nil _ _ _ _ _ | exact Kd.N_nil _ _ _ _ _ | exact Kd.V_nil _ _ _ _ _ | exact Kd.Q_nil _ _ _ _ _ | exact Kd.S_nil _ _ _ _ _, by repeat (first | (with_reducible first | exact HB.out | apply below_alloc | apply pw_below_drewN | apply below_drew1) | exact HB.out)⟩
      · replace c10 := Bool.eq_false_iff.mpr c10
        subst c10
        have H1 : ((spec_l1Own.f l0).bind fun t1133 => (spec_PutDoubles.l0 kj2 l0 l1 t1133 0)) = some (r1, r2) := by rw [if_neg (show ¬ (false = true) by decide)] at H; exact H
        clear H
        have H := H1
        clear H1
        replace H := Option.bind_eq_some_iff.mp H
        obtain ⟨t1133, A110, H⟩ := H
        replace H : (spec_PutDoubles.l0 kj2 l0 l1 t1133 0) = some (r1, r2) := H
        have A11 := Aside0.mk A110
        clear A110
        have H' := Aside0.mk H
        clear H
        go_wp2_with (first | ((with_reducible refine gate_callee (f := 122) rfl ?_); refine goesL_ (some 18) rfl rfl Try.func122 (by kernel_rfl) rfl #[.slice A0 l0.length c0] rfl (by (try simp only [List.map_toArray, List.map_cons, List.map_nil]); first | done | rfl | (simp only [List.length_drop, List.length_take]; rfl)) ?_; (with_reducible refine (spec_l1Own.calls _ _ l0 t1133 _ ?side1 ?side2 A11.out).mono ?_); (case side1 => repeat (first | exact (Kd.C_below HR0.out HB.out) | (with_reducible refine Kd.C_alloc ?_ _) | (with_reducible refine Kd.C_drewN ?_ _) | (with_reducible refine Kd.C_drew ?_))); (case side2 => exact HC0.out); rintro e w12 ⟨v1134, rfl, ho0, hb⟩; refine ⟨_, rfl, ?_⟩; have n0_ := Aside0.mk (Kd.R_lower ho0 (below_size (by repeat (first | (with_reducible first | exact HB.out | apply below_alloc | apply pw_below_drewN | apply below_drew1) | exact HB.out)))); have n1_ := Aside0.mk (below_step (by repeat (first | (with_reducible first | exact HB.out | apply below_alloc | apply pw_below_drewN | apply below_drew1) | exact HB.out)) hb); clear HB; have HO1135 := n0_; have HB := n1_; clear n0_ n1_; (try clear hb); (try clear hb2); (try clear hk); (try clear hi); (try clear ho0)))
        go_loopg [6, 7] kj2 (fun kq v6 v7 w' => ∃ (x6_2 : List Int) (x7_2 : Int), v7 = .int .i64 x7_2 ∧ Aside0 (spec_PutDoubles.l0 kq l0 l1 x6_2 x7_2 = some (r1, r2)) ∧ Aside0 (kq ≤ kj2) ∧ Aside0 (Kd.R (Kd.int .i64) 3 w' w.heap.size (fun _ => True) v6 x6_2) ∧ Aside0 (Below w.heap.size w w'))
        case atStart => exact ⟨(t1133), (0), (by first | rfl | (simp; done) | (simp [*]; done)), H', ⟨Nat.le_refl _⟩, ⟨by (with_reducible repeat (first | apply Kd.R_alloc | apply Kd.R_drewN | apply Kd.R_drew)); exact HO1135.out⟩, ⟨by repeat (first | (with_reducible first | exact HB.out | apply below_alloc | apply pw_below_drewN | apply below_drew1) | exact HB.out)⟩⟩
        case round =>
          clear H'
          try clear c1
          try clear p2
          try clear c5
          try clear c6
          try clear c10
          try clear c12
          try clear p2
          obtain ⟨x6_2, x7_2, rfl, HA, HK2, HO_6, HB⟩ := hrel
          cases gk with
          | zero => exact absurd HA.out (by simp [spec_PutDoubles.l0])
          | succ k2 =>
            have H := HA.out
            clear HA
            simp only [spec_PutDoubles.l0] at H
            by_cases c13 : x7_2 ≤ 9
            · rw [if_pos c13] at H
              have c13b0 : decide (x7_2 ≤ 9) = true := decide_eq_true c13
              clear c13
              replace H := Option.bind_eq_some_iff.mp H
              obtain ⟨⟨t1136, t1137⟩, A140, H⟩ := H
              replace H : ((spec_tiPlace.f k2 l1 t1136 t1137).bind fun t1139 => (if t1139 ≥ 0 then ((spec_haTiles.f k2 l0).bind fun t1140 => ((spec_tiPlace.f k2 t1140 t1136 t1137).bind fun t1143 => (if t1143 < 0 then ((spec_l1Has.f k2 l0 x7_2).bind fun t1144 => (if t1144 = true then ((spec_haPut.f k2 x6_2 x7_2).bind fun t1145 => (spec_PutDoubles.l0 k2 l0 l1 t1145 (wrap64 (x7_2 + 1)))) else (spec_PutDoubles.l0 k2 l0 l1 x6_2 (wrap64 (x7_2 + 1))))) else (spec_PutDoubles.l0 k2 l0 l1 x6_2 (wrap64 (x7_2 + 1)))))) else (spec_PutDoubles.l0 k2 l0 l1 x6_2 (wrap64 (x7_2 + 1))))) = some (r1, r2) := H
              have A14 := Aside0.mk A140
              clear A140
              replace H := Option.bind_eq_some_iff.mp H
              obtain ⟨t1139, A150, H⟩ := H
              replace H : (if t1139 ≥ 0 then ((spec_haTiles.f k2 l0).bind fun t1140 => ((spec_tiPlace.f k2 t1140 t1136 t1137).bind fun t1143 => (if t1143 < 0 then ((spec_l1Has.f k2 l0 x7_2).bind fun t1144 => (if t1144 = true then ((spec_haPut.f k2 x6_2 x7_2).bind fun t1145 => (spec_PutDoubles.l0 k2 l0 l1 t1145 (wrap64 (x7_2 + 1)))) else (spec_PutDoubles.l0 k2 l0 l1 x6_2 (wrap64 (x7_2 + 1))))) else (spec_PutDoubles.l0 k2 l0 l1 x6_2 (wrap64 (x7_2 + 1)))))) else (spec_PutDoubles.l0 k2 l0 l1 x6_2 (wrap64 (x7_2 + 1)))) = some (r1, r2) := H
              have A15 := Aside0.mk A150
              clear A150
              by_cases c16 : t1139 ≥ 0
              · rw [if_pos c16] at H
                have c16b0 : decide (0 ≤ t1139) = true := decide_eq_true c16
                clear c16
                replace H := Option.bind_eq_some_iff.mp H
                obtain ⟨t1140, A170, H⟩ := H
                replace H : ((spec_tiPlace.f k2 t1140 t1136 t1137).bind fun t1143 => (if t1143 < 0 then ((spec_l1Has.f k2 l0 x7_2).bind fun t1144 => (if t1144 = true then ((spec_haPut.f k2 x6_2 x7_2).bind fun t1145 => (spec_PutDoubles.l0 k2 l0 l1 t1145 (wrap64 (x7_2 + 1)))) else (spec_PutDoubles.l0 k2 l0 l1 x6_2 (wrap64 (x7_2 + 1))))) else (spec_PutDoubles.l0 k2 l0 l1 x6_2 (wrap64 (x7_2 + 1))))) = some (r1, r2) := H
                have A17 := Aside0.mk A170
                clear A170
                replace H := Option.bind_eq_some_iff.mp H
                obtain ⟨t1143, A180, H⟩ := H
                replace H : (if t1143 < 0 then ((spec_l1Has.f k2 l0 x7_2).bind fun t1144 => (if t1144 = true then ((spec_haPut.f k2 x6_2 x7_2).bind fun t1145 => (spec_PutDoubles.l0 k2 l0 l1 t1145 (wrap64 (x7_2 + 1)))) else (spec_PutDoubles.l0 k2 l0 l1 x6_2 (wrap64 (x7_2 + 1))))) else (spec_PutDoubles.l0 k2 l0 l1 x6_2 (wrap64 (x7_2 + 1)))) = some (r1, r2) := H
                have A18 := Aside0.mk A180
                clear A180
                by_cases c19 : t1143 < 0
                · rw [if_pos c19] at H
                  have c19b0 : decide (t1143 < 0) = true := decide_eq_true c19
                  clear c19
                  replace H := Option.bind_eq_some_iff.mp H
                  obtain ⟨t1144, A200, H⟩ := H
                  replace H : (if t1144 = true then ((spec_haPut.f k2 x6_2 x7_2).bind fun t1145 => (spec_PutDoubles.l0 k2 l0 l1 t1145 (wrap64 (x7_2 + 1)))) else (spec_PutDoubles.l0 k2 l0 l1 x6_2 (wrap64 (x7_2 + 1)))) = some (r1, r2) := H
                  have A20 := Aside0.mk A200
                  clear A200
                  by_cases c21 : t1144 = true
                  · subst c21
                    have H1 : ((spec_haPut.f k2 x6_2 x7_2).bind fun t1145 => (spec_PutDoubles.l0 k2 l0 l1 t1145 (wrap64 (x7_2 + 1)))) = some (r1, r2) := by rw [if_pos rfl] at H; exact H
                    clear H
                    have H := H1
                    clear H1
                    replace H := Option.bind_eq_some_iff.mp H
                    obtain ⟨t1145, A220, H⟩ := H
                    replace H : (spec_PutDoubles.l0 k2 l0 l1 t1145 (wrap64 (x7_2 + 1))) = some (r1, r2) := H
                    have A22 := Aside0.mk A220
                    clear A220
                    have H' := Aside0.mk H
                    clear H
                    try go_wp2_with (first | ((with_reducible refine gate_callee (f := 105) rfl ?_); refine goesL_ (some 25) rfl rfl Try.func105 (by kernel_rfl) rfl #[.int .i64 x7_2, .int .i64 x7_2] rfl (by (try simp only [List.map_toArray, List.map_cons, List.map_nil]); first | done | rfl | (simp only [List.length_drop, List.length_take]; rfl)) ?_; (with_reducible refine (spec_tiOf.calls x7_2 x7_2 t1136 t1137 _ A14.out).mono ?_); rintro e w23 ⟨rfl, hb⟩; refine ⟨_, rfl, ?_⟩; have n0_ := Aside0.mk (Kd.R_below (by (with_reducible repeat (first | apply Kd.R_alloc | apply Kd.R_drewN | apply Kd.R_drew)); exact HO_6.out) hb); have n1_ := Aside0.mk (below_step (by repeat (first | (with_reducible first | exact HB.out | apply below_alloc | apply pw_below_drewN | apply below_drew1) | exact HB.out)) hb); clear HO_6; clear HB; have HO_6 := n0_; have HB := n1_; clear n0_ n1_; (try clear hb); (try clear hb2); (try clear hk); (try clear hi)) | ((with_reducible refine gate_dst (N := 8) rfl ?_); refine box_event ?hg (N := 8) ?hd (cs := #[.int .i64 0, .int .i64 0]) (t := 67) ?hr ?_; (case hd => rfl); (case hg => rfl); (case hr => first | (go_simp; done) | (go_simp; rfl)); intro gb1138 hg w24 hbox hb; have n0_ := Aside0.mk (Kd.R_below (by (with_reducible repeat (first | apply Kd.R_alloc | apply Kd.R_drewN | apply Kd.R_drew)); exact HO_6.out) hb); have n1_ := Aside0.mk (below_step (by repeat (first | (with_reducible first | exact HB.out | apply below_alloc | apply pw_below_drewN | apply below_drew1) | exact HB.out)) hb); have n2_ := Aside0.mk (hbox); have n3_ := Aside0.mk ((by rw [hg]; exact (below_size (by repeat (first | (with_reducible first | exact HB.out | apply below_alloc | apply pw_below_drewN | apply below_drew1) | exact HB.out))) : w.heap.size ≤ gb1138)); have n4_ := Aside0.mk ((by rw [hg]; exact (below_size (by repeat (first | (with_reducible first | exact HB.out | apply below_alloc | apply pw_below_drewN | apply below_drew1) | exact HB.out))) : w.heap.size ≤ gb1138)); clear HO_6; clear HB; have HO_6 := n0_; have HB := n1_; have BK1138 := n2_; have GW1138 := n3_; have GE1138 := n4_; clear n0_ n1_ n2_ n3_ n4_; clear hb hbox hg; have hcz25_0 : w24.cell? ⟨gb1138, 0, none⟩ = some (.int .i64 0) := (blk_cell BK1138.out 0).trans rfl; have hcz25_1 : w24.cell? ⟨gb1138, 1, none⟩ = some (.int .i64 0) := (blk_cell BK1138.out 1).trans rfl; have hfz25_0 := blk_frozen BK1138.out 0; have hfz25_1 := blk_frozen BK1138.out 1))
                    have n0_ : Aside0 (Kd.R (Kd.int .i64) 3 ((w24.setCell ⟨gb1138, 0, none⟩ (.int .i64 t1136)).setCell ⟨gb1138, 1, none⟩ (.int .i64 t1137)) w.heap.size (fun _ => True) u6 x6_2) := ⟨by (with_reducible repeat (first | apply Kd.R_alloc | apply Kd.R_drewN | apply Kd.R_drew)); exact Kd.R_mono (Kd.R_far (p := ⟨gb1138, 1, none⟩) (Kd.R_far (p := ⟨gb1138, 0, none⟩) (Kd.R_types HO_6.out BK1138.out (by decide)) (fun _ hk => hk.2) (.int .i64 t1136)) (fun _ hk => hk.2) (.int .i64 t1137)) (fun _ hk => trivial)⟩
                    have n1_ : Aside0 (((w24.setCell ⟨gb1138, 0, none⟩ (.int .i64 t1136)).setCell ⟨gb1138, 1, none⟩ (.int .i64 t1137)).heap[gb1138]? = some (.cells #[.int .i64 t1136, .int .i64 t1137] 67 (0, 0))) := ⟨by (with_reducible repeat (first | refine blk_drewN ?_ _ | refine blk_drew ?_ | refine blk_alloc ?_ _)); refine blk_put (cs := #[.int .i64 t1136, .int .i64 0]) ?_ 1 _ rfl; (with_reducible repeat (first | refine blk_drewN ?_ _ | refine blk_drew ?_ | refine blk_alloc ?_ _)); refine blk_put (cs := #[.int .i64 0, .int .i64 0]) ?_ 0 _ rfl; (with_reducible repeat (first | refine blk_drewN ?_ _ | refine blk_drew ?_ | refine blk_alloc ?_ _)); exact BK1138.out⟩
                    have n2_ : Aside0 (Below w.heap.size w ((w24.setCell ⟨gb1138, 0, none⟩ (.int .i64 t1136)).setCell ⟨gb1138, 1, none⟩ (.int .i64 t1137))) := ⟨by repeat (first | (with_reducible first | exact HB.out | apply below_alloc | apply pw_below_drewN | apply below_drew1 | refine below_set ?_ GE1138.out) | exact HB.out)⟩
                    (try clear HO_6)
                    (try clear BK1138)
                    (try clear HB)
                    generalize ((w24.setCell ⟨gb1138, 0, none⟩ (.int .i64 t1136)).setCell ⟨gb1138, 1, none⟩ (.int .i64 t1137)) = w26 at n0_ n1_ n2_ ⊢
                    have HO_6 := n0_
                    have BK1138 := n1_
                    have HB := n2_
                    clear n0_ n1_ n2_
                    have n0_ := Aside0.mk (Kd.R_drew HO_6.out)
                    have n1_ := Aside0.mk (blk_drew BK1138.out)
                    have n2_ := Aside0.mk (below_drew1 HB.out)
                    clear HO_6
                    clear BK1138
                    clear HB
                    have HO_6 := n0_
                    have BK1138 := n1_
                    have HB := n2_
                    clear n0_ n1_ n2_
                    refine start_ (n := 16) (S := fun w' => w'.cell? ⟨gb1138, 0, none⟩ = some (.int .i64 t1136) ∧ w'.cell? ⟨gb1138, 1, none⟩ = some (.int .i64 t1137)) (ds := []) #[false, false, false, false, false, false, false, false, false, false, false, false, false, false, false, false] (by kernel_rfl) rfl rfl ⟨(blk_cell BK1138.out 0).trans rfl, (blk_cell BK1138.out 1).trans rfl⟩ (fun hHeld => ?_); refine with_tabW spec_PutDoubles.tab8 spec_PutDoubles.bits8 (fun HT_ HW_ => ?_)
                    generalize w26.drew = w27 at HO_6 BK1138 HB hHeld ⊢
                    refine pure_ (i := 0) (N := some 26) (v := ?_) (a' := ?_) #[true, false, false, false, false, false, false, false, false, false, false, false, false, false, false, false] rfl rfl (any_of HT_.out (by kernel_rfl)) (fun _ _ _ h => h) (Or.inl ⟨by rfl, ?_⟩) ?_ ?_
                    rotate_left
                    · intro w'
                      go_simp
                      with_reducible rfl
                    rotate_left
                    · simp only [Act.put, List.setIfInBounds_toArray, List.set_cons_zero, List.set_cons_succ, i64_w, i32_w]
                      rfl
                    refine take_ (i := 1) (N := some 27) (v := ?_) (a' := ?_) #[true, true, false, false, false, false, false, false, false, false, false, false, false, false, false, false] rfl rfl (take_ofW HT_.out HW_.out (by kernel_rfl)) (fun _ _ _ h => h) (Or.inl ⟨by rfl, ?_⟩) hHeld ?_ ?_
                    rotate_left
                    · rintro w' ⟨s0, s1⟩
                      go_simp
                      with_reducible rfl
                    rotate_left
                    · simp only [Act.put, List.setIfInBounds_toArray, List.set_cons_zero, List.set_cons_succ, i64_w, i32_w]
                      rfl
                    refine one_ (i := 2) (N := some 28) #[true, true, true, false, false, false, false, false, false, false, false, false, false, false, false, false] rfl rfl (one_of HT_.out (by kernel_rfl)) (by decide) (fun K hK => ?_)
                    refine goes_ Try.func110 (by kernel_rfl) rfl #[.slice A1 l1.length c1, .agg #[.int .i64 t1136, .int .i64 t1137]] (by rfl) rfl rfl (by (try simp only [List.map_toArray, List.map_cons, List.map_nil]); first | done | rfl | (simp only [List.length_drop, List.length_take]; rfl)) ?_
                    with_reducible refine (spec_tiPlace.calls k2 _ _ l1 t1136 t1137 t1139 _ ?side1 ?side2 A15.out).mono ?_
                    (case side1 => repeat (first | exact (Kd.C_below HR1.out HB.out) | (with_reducible refine Kd.C_alloc ?_ _) | (with_reducible refine Kd.C_drewN ?_ _) | (with_reducible refine Kd.C_drew ?_)))
                    (case side2 => exact HC1.out)
                    rintro e w28 ⟨rfl, hb⟩
                    refine ⟨_, rfl, ?_⟩
                    have n0_ := Aside0.mk (Kd.R_below (by (with_reducible repeat (first | apply Kd.R_alloc | apply Kd.R_drewN | apply Kd.R_drew)); exact HO_6.out) hb)
                    have n1_ := Aside0.mk (blk_below (g := gb1138) (o := .cells #[.int .i64 t1136, .int .i64 t1137] 67 (0, 0)) (by (with_reducible repeat (first | refine blk_drewN ?_ _ | refine blk_drew ?_ | refine blk_alloc ?_ _)); exact BK1138.out) hb)
                    have n2_ := Aside0.mk (below_step (by repeat (first | (with_reducible first | exact HB.out | apply below_alloc | apply pw_below_drewN | apply below_drew1 | refine below_set ?_ GE1138.out) | exact HB.out)) hb)
                    clear HO_6
                    clear BK1138
                    clear HB
                    have HO_6 := n0_
                    have BK1138 := n1_
                    have HB := n2_
                    clear n0_ n1_ n2_
                    (try clear hb)
                    (try clear hb2)
                    (try clear hk)
                    (try clear hi)
                    refine hK.out _ _ ⟨(blk_cell BK1138.out 0).trans rfl, (blk_cell BK1138.out 1).trans rfl⟩ (fun hHeld => ?_)
                    clear hK K
                    refine norm_ (a' := ?_) ?_ ?_
                    rotate_left
                    · show Act.put _ (some 28) _ = _
                      simp only [Act.put, List.setIfInBounds_toArray, List.set_cons_zero, List.set_cons_succ, i64_w, i32_w]
                      rfl
                    refine pure_ (i := 3) (N := some 29) (v := ?_) (a' := ?_) #[true, true, true, true, false, false, false, false, false, false, false, false, false, false, false, false] rfl rfl (any_of HT_.out (by kernel_rfl)) (fun _ _ _ h => h) (Or.inl ⟨by rfl, ?_⟩) ?_ ?_
                    rotate_left
                    · intro w'
                      go_simp
                      with_reducible rfl
                    rotate_left
                    · simp only [Act.put, List.setIfInBounds_toArray, List.set_cons_zero, List.set_cons_succ, i64_w, i32_w]
                      rfl
                    refine pure_ (i := 4) (N := some 30) (v := ?_) (a' := ?_) #[true, true, true, true, true, false, false, false, false, false, false, false, false, false, false, false] rfl rfl (any_of HT_.out (by kernel_rfl)) (fun _ _ _ h => h) (Or.inl ⟨by rfl, ?_⟩) ?_ ?_
                    rotate_left
                    · intro w'
                      go_simp
                      with_reducible rfl
                    rotate_left
                    · simp only [Act.put, List.setIfInBounds_toArray, List.set_cons_zero, List.set_cons_succ, i64_w, i32_w]
                      rfl
                    refine pure_ (i := 5) (N := some 31) (v := ?_) (a' := ?_) #[true, true, true, true, true, true, false, false, false, false, false, false, false, false, false, false] rfl rfl (any_of HT_.out (by kernel_rfl)) (fun _ _ _ h => h) (Or.inl ⟨by rfl, ?_⟩) ?_ ?_
                    rotate_left
                    · intro w'
                      go_simp
                      with_reducible rfl
                    rotate_left
                    · simp only [Act.put, List.setIfInBounds_toArray, List.set_cons_zero, List.set_cons_succ, i64_w, i32_w]
                      rfl
                    refine take_ (i := 7) (N := some 33) (v := ?_) (a' := ?_) #[true, true, true, true, true, true, false, true, false, false, false, false, false, false, false, false] rfl rfl (take_ofW HT_.out HW_.out (by kernel_rfl)) (fun _ _ _ h => h) (Or.inl ⟨by rfl, ?_⟩) hHeld ?_ ?_
                    rotate_left
                    · rintro w' ⟨s0, s1⟩
                      go_simp
                      with_reducible rfl
                    rotate_left
                    · simp only [Act.put, List.setIfInBounds_toArray, List.set_cons_zero, List.set_cons_succ, i64_w, i32_w]
                      rfl
                    refine one_ (i := 6) (N := some 32) #[true, true, true, true, true, true, true, true, false, false, false, false, false, false, false, false] rfl rfl (one_of HT_.out (by kernel_rfl)) (by decide) (fun K hK => ?_)
                    refine goes_ Try.func109 (by kernel_rfl) rfl #[.slice A0 l0.length c0] (by rfl) rfl rfl (by (try simp only [List.map_toArray, List.map_cons, List.map_nil]); first | done | rfl | (simp only [List.length_drop, List.length_take]; rfl)) ?_
                    with_reducible refine (spec_haTiles.calls k2 _ _ l0 t1140 _ ?side1 ?side2 A17.out).mono ?_
                    (case side1 => repeat (first | exact (Kd.C_below HR0.out HB.out) | (with_reducible refine Kd.C_alloc ?_ _) | (with_reducible refine Kd.C_drewN ?_ _) | (with_reducible refine Kd.C_drew ?_)))
                    (case side2 => exact HC0.out)
                    rintro e w29 ⟨v1141, rfl, ho0, hb⟩
                    refine ⟨_, rfl, ?_⟩
                    have n0_ := Aside0.mk (Kd.R_below (by (with_reducible repeat (first | apply Kd.R_alloc | apply Kd.R_drewN | apply Kd.R_drew)); exact HO_6.out) hb)
                    have n1_ := Aside0.mk (Kd.R_lower (Kd.R_newB ho0 (g := gb1138) (o := .cells #[.int .i64 t1136, .int .i64 t1137] 67 (0, 0)) (by (with_reducible repeat (first | refine blk_drewN ?_ _ | refine blk_drew ?_ | refine blk_alloc ?_ _)); exact BK1138.out)) (below_size (by repeat (first | (with_reducible first | exact HB.out | apply below_alloc | apply pw_below_drewN | apply below_drew1 | refine below_set ?_ GE1138.out) | exact HB.out))))
                    have n2_ := Aside0.mk (blk_below (g := gb1138) (o := .cells #[.int .i64 t1136, .int .i64 t1137] 67 (0, 0)) (by (with_reducible repeat (first | refine blk_drewN ?_ _ | refine blk_drew ?_ | refine blk_alloc ?_ _)); exact BK1138.out) hb)
                    have n3_ := Aside0.mk (below_step (by repeat (first | (with_reducible first | exact HB.out | apply below_alloc | apply pw_below_drewN | apply below_drew1 | refine below_set ?_ GE1138.out) | exact HB.out)) hb)
                    clear HO_6
                    clear BK1138
                    clear HB
                    have HO_6 := n0_
                    have HO1142 := n1_
                    have BK1138 := n2_
                    have HB := n3_
                    clear n0_ n1_ n2_ n3_
                    (try clear hb)
                    (try clear hb2)
                    (try clear hk)
                    (try clear hi)
                    (try clear ho0)
                    obtain ⟨Ao30, co30, eo30⟩ := Kd.R_slice HO1142.out
                    (first | subst eo30 | (injection eo30 with f1_ f2_ f3_; have f4_ := f1_.symm; have f5_ := f3_.symm; clear f1_ f2_ f3_; subst f4_; subst f5_))
                    refine hK.out _ _ ⟨(blk_cell BK1138.out 0).trans rfl, (blk_cell BK1138.out 1).trans rfl⟩ (fun hHeld => ?_)
                    clear hK K
                    refine norm_ (a' := ?_) ?_ ?_
                    rotate_left
                    · show Act.put _ (some 32) _ = _
                      simp only [Act.put, List.setIfInBounds_toArray, List.set_cons_zero, List.set_cons_succ, i64_w, i32_w]
                      rfl
                    refine one_ (i := 8) (N := some 34) #[true, true, true, true, true, true, true, true, true, false, false, false, false, false, false, false] rfl rfl (one_of HT_.out (by kernel_rfl)) (by decide) (fun K hK => ?_)
                    refine goes_ Try.func110 (by kernel_rfl) rfl #[.slice Ao30 t1140.length co30, .agg #[.int .i64 t1136, .int .i64 t1137]] (by rfl) rfl rfl (by (try simp only [List.map_toArray, List.map_cons, List.map_nil]); first | done | rfl | (simp only [List.length_drop, List.length_take]; rfl)) ?_
                    with_reducible refine (spec_tiPlace.calls k2 _ _ t1140 t1136 t1137 t1143 _ ?side1 ?side2 A18.out).mono ?_
                    (case side1 => repeat (first | exact (Kd.R_reads' HO1142.out).2.2 | (with_reducible refine Kd.C_alloc ?_ _) | (with_reducible refine Kd.C_drewN ?_ _) | (with_reducible refine Kd.C_drew ?_)))
                    (case side2 => exact (Kd.R_reads' HO1142.out).2.1)
                    rintro e w31 ⟨rfl, hb⟩
                    refine ⟨_, rfl, ?_⟩
                    have n0_ := Aside0.mk (Kd.R_below (by (with_reducible repeat (first | apply Kd.R_alloc | apply Kd.R_drewN | apply Kd.R_drew)); exact HO_6.out) hb)
                    have n1_ := Aside0.mk (Kd.R_below (by (with_reducible repeat (first | apply Kd.R_alloc | apply Kd.R_drewN | apply Kd.R_drew)); exact HO1142.out) hb)
                    have n2_ := Aside0.mk (blk_below (g := gb1138) (o := .cells #[.int .i64 t1136, .int .i64 t1137] 67 (0, 0)) (by (with_reducible repeat (first | refine blk_drewN ?_ _ | refine blk_drew ?_ | refine blk_alloc ?_ _)); exact BK1138.out) hb)
                    have n3_ := Aside0.mk (below_step (by repeat (first | (with_reducible first | exact HB.out | apply below_alloc | apply pw_below_drewN | apply below_drew1 | refine below_set ?_ GE1138.out) | exact HB.out)) hb)
                    clear HO_6
                    clear HO1142
                    clear BK1138
                    clear HB
                    have HO_6 := n0_
                    have HO1142 := n1_
                    have BK1138 := n2_
                    have HB := n3_
                    clear n0_ n1_ n2_ n3_
                    (try clear hb)
                    (try clear hb2)
                    (try clear hk)
                    (try clear hi)
                    refine hK.out _ _ ⟨(blk_cell BK1138.out 0).trans rfl, (blk_cell BK1138.out 1).trans rfl⟩ (fun hHeld => ?_)
                    clear hK K
                    refine norm_ (a' := ?_) ?_ ?_
                    rotate_left
                    · show Act.put _ (some 34) _ = _
                      simp only [Act.put, List.setIfInBounds_toArray, List.set_cons_zero, List.set_cons_succ, i64_w, i32_w]
                      rfl
                    refine pure_ (i := 9) (N := some 35) (v := ?_) (a' := ?_) #[true, true, true, true, true, true, true, true, true, true, false, false, false, false, false, false] rfl rfl (any_of HT_.out (by kernel_rfl)) (fun _ _ _ h => h) (Or.inl ⟨by rfl, ?_⟩) ?_ ?_
                    rotate_left
                    · intro w'
                      go_simp
                      with_reducible rfl
                    rotate_left
                    · simp only [Act.put, List.setIfInBounds_toArray, List.set_cons_zero, List.set_cons_succ, i64_w, i32_w]
                      rfl
                    refine pure_ (i := 10) (N := some 36) (v := ?_) (a' := ?_) #[true, true, true, true, true, true, true, true, true, true, true, false, false, false, false, false] rfl rfl (any_of HT_.out (by kernel_rfl)) (fun _ _ _ h => h) (Or.inl ⟨by rfl, ?_⟩) ?_ ?_
                    rotate_left
                    · intro w'
                      go_simp
                      with_reducible rfl
                    rotate_left
                    · simp only [Act.put, List.setIfInBounds_toArray, List.set_cons_zero, List.set_cons_succ, i64_w, i32_w]
                      rfl
                    refine pure_ (i := 11) (N := some 37) (v := ?_) (a' := ?_) #[true, true, true, true, true, true, true, true, true, true, true, true, false, false, false, false] rfl rfl (any_of HT_.out (by kernel_rfl)) (fun _ _ _ h => h) (Or.inl ⟨by rfl, ?_⟩) ?_ ?_
                    rotate_left
                    · intro w'
                      go_simp
                      with_reducible rfl
                    rotate_left
                    · simp only [Act.put, List.setIfInBounds_toArray, List.set_cons_zero, List.set_cons_succ, i64_w, i32_w]
                      rfl
                    refine pure_ (i := 12) (N := some 38) (v := ?_) (a' := ?_) #[true, true, true, true, true, true, true, true, true, true, true, true, true, false, false, false] rfl rfl (any_of HT_.out (by kernel_rfl)) (fun _ _ _ h => h) (Or.inl ⟨by rfl, ?_⟩) ?_ ?_
                    rotate_left
                    · intro w'
                      go_simp
                      with_reducible rfl
                    rotate_left
                    · simp only [Act.put, List.setIfInBounds_toArray, List.set_cons_zero, List.set_cons_succ, i64_w, i32_w]
                      rfl
                    refine pure_ (i := 13) (N := some 39) (v := ?_) (a' := ?_) #[true, true, true, true, true, true, true, true, true, true, true, true, true, true, false, false] rfl rfl (any_of HT_.out (by kernel_rfl)) (fun _ _ _ h => h) (Or.inl ⟨by rfl, ?_⟩) ?_ ?_
                    rotate_left
                    · intro w'
                      go_simp
                      with_reducible rfl
                    rotate_left
                    · simp only [Act.put, List.setIfInBounds_toArray, List.set_cons_zero, List.set_cons_succ, i64_w, i32_w]
                      rfl
                    refine one_ (i := 14) (N := some 40) #[true, true, true, true, true, true, true, true, true, true, true, true, true, true, true, false] rfl rfl (one_of HT_.out (by kernel_rfl)) (by decide) (fun K hK => ?_)
                    refine goes_ Try.func104 (by kernel_rfl) rfl #[.slice A0 l0.length c0, .int .i64 x7_2] (by rfl) rfl rfl (by (try simp only [List.map_toArray, List.map_cons, List.map_nil]); first | done | rfl | (simp only [List.length_drop, List.length_take]; rfl)) ?_
                    with_reducible refine (spec_l1Has.calls k2 _ _ l0 x7_2 true _ ?side1 ?side2 A20.out).mono ?_
                    (case side1 => repeat (first | exact (Kd.C_below HR0.out HB.out) | (with_reducible refine Kd.C_alloc ?_ _) | (with_reducible refine Kd.C_drewN ?_ _) | (with_reducible refine Kd.C_drew ?_)))
                    (case side2 => exact HC0.out)
                    rintro e w' ⟨rfl, ⟨nd, rfl⟩⟩
                    refine ⟨_, rfl, ?_⟩
                    refine hK.out _ _ ⟨(blk_cell BK1138.out 0).trans rfl, (blk_cell BK1138.out 1).trans rfl⟩ (fun hHeld => ?_)
                    clear hK K
                    refine norm_ (a' := ?_) ?_ ?_
                    rotate_left
                    · show Act.put _ (some 40) _ = _
                      simp only [Act.put, List.setIfInBounds_toArray, List.set_cons_zero, List.set_cons_succ, i64_w, i32_w]
                      rfl
                    refine pure_ (i := 15) (N := some 41) (v := ?_) (a' := ?_) #[true, true, true, true, true, true, true, true, true, true, true, true, true, true, true, true] rfl rfl (any_of HT_.out (by kernel_rfl)) (fun _ _ _ h => h) (Or.inl ⟨by rfl, ?_⟩) ?_ ?_
                    rotate_left
                    · intro w'
                      go_simp
                      with_reducible rfl
                    rotate_left
                    · simp only [Act.put, List.setIfInBounds_toArray, List.set_cons_zero, List.set_cons_succ, i64_w, i32_w]
                      rfl
                    refine done_ (done_of HT_.out (by kernel_rfl)) ?_
                    obtain ⟨Ao32, co32, eo32⟩ := Kd.R_slice HO_6.out
                    subst eo32
                    try go_wp2_with (first | ((with_reducible refine gate_callee (f := 123) rfl ?_); refine goesL_ (some 44) rfl rfl Try.func123 (by kernel_rfl) rfl #[.slice Ao32 x6_2.length co32, .int .i64 x7_2] rfl (by (try simp only [List.map_toArray, List.map_cons, List.map_nil]); first | done | rfl | (simp only [List.length_drop, List.length_take]; rfl)) ?_; (with_reducible refine (spec_haPut.calls k2 _ _ x6_2 x7_2 t1145 _ ?side1 ?side2 A22.out).mono ?_); (case side1 => repeat (first | exact (Kd.R_reads' HO_6.out).2.2 | (with_reducible refine Kd.C_alloc ?_ _) | (with_reducible refine Kd.C_drewN ?_ _) | (with_reducible refine Kd.C_drew ?_))); (case side2 => exact (Kd.R_reads' HO_6.out).2.1); rintro e w33 ⟨v1146, rfl, ho0, hb⟩; refine ⟨_, rfl, ?_⟩; have n0_ := Aside0.mk (Kd.R_elder' (by (with_reducible repeat (first | apply Kd.R_alloc | apply Kd.R_drewN | apply Kd.R_drew)); exact HO_6.out) (Kd.R_base ho0) hb); have n1_ := Aside0.mk (Kd.R_below (by (with_reducible repeat (first | apply Kd.R_alloc | apply Kd.R_drewN | apply Kd.R_drew)); exact HO1142.out) hb); have n2_ := Aside0.mk (Kd.R_lower (Kd.R_new' ho0 (Kd.R_lt (by (with_reducible repeat (first | apply Kd.R_alloc | apply Kd.R_drewN | apply Kd.R_drew)); exact HO_6.out))) (below_size (by repeat (first | (with_reducible first | exact HB.out | apply below_alloc | apply pw_below_drewN | apply below_drew1 | refine below_set ?_ GE1138.out) | exact HB.out)))); have n3_ := Aside0.mk (blk_below (g := gb1138) (o := .cells #[.int .i64 t1136, .int .i64 t1137] 67 (0, 0)) (by (with_reducible repeat (first | refine blk_drewN ?_ _ | refine blk_drew ?_ | refine blk_alloc ?_ _)); exact BK1138.out) hb); have n4_ := Aside0.mk (below_step (by repeat (first | (with_reducible first | exact HB.out | apply below_alloc | apply pw_below_drewN | apply below_drew1 | refine below_set ?_ GE1138.out) | exact HB.out)) hb); clear HO_6; clear HO1142; clear BK1138; clear HB; have HO_6 := n0_; have HO1142 := n1_; have HO1147 := n2_; have BK1138 := n3_; have HB := n4_; clear n0_ n1_ n2_ n3_ n4_; (try clear hb); (try clear hb2); (try clear hk); (try clear hi); (try clear ho0)))
                    go_roundg k2
                    case measure => have := HJ2.out; have := HK2.out; omega
                    case rel => exact ⟨(t1145), (wrap64 (x7_2 + 1)), (by first | rfl | (simp; done) | (simp [*]; done)), H', ⟨by have := HJ2.out; have := HK2.out; omega⟩, ⟨by (with_reducible repeat (first | apply Kd.R_alloc | apply Kd.R_drewN | apply Kd.R_drew)); exact Kd.R_mono HO1147.out (fun _ hk => trivial)⟩, ⟨by repeat (first | (with_reducible first | exact HB.out | apply below_alloc | apply pw_below_drewN | apply below_drew1 | refine below_set ?_ GE1138.out) | exact HB.out)⟩⟩
                  · replace c21 := Bool.eq_false_iff.mpr c21
                    subst c21
                    have H1 : (spec_PutDoubles.l0 k2 l0 l1 x6_2 (wrap64 (x7_2 + 1))) = some (r1, r2) := by rw [if_neg (show ¬ (false = true) by decide)] at H; exact H
                    clear H
                    have H := H1
                    clear H1
                    have H' := Aside0.mk H
                    clear H
                    try go_wp2_with (first | ((with_reducible refine gate_callee (f := 105) rfl ?_); refine goesL_ (some 25) rfl rfl Try.func105 (by kernel_rfl) rfl #[.int .i64 x7_2, .int .i64 x7_2] rfl (by (try simp only [List.map_toArray, List.map_cons, List.map_nil]); first | done | rfl | (simp only [List.length_drop, List.length_take]; rfl)) ?_; (with_reducible refine (spec_tiOf.calls x7_2 x7_2 t1136 t1137 _ A14.out).mono ?_); rintro e w34 ⟨rfl, hb⟩; refine ⟨_, rfl, ?_⟩; have n0_ := Aside0.mk (Kd.R_below (by (with_reducible repeat (first | apply Kd.R_alloc | apply Kd.R_drewN | apply Kd.R_drew)); exact HO_6.out) hb); have n1_ := Aside0.mk (below_step (by repeat (first | (with_reducible first | exact HB.out | apply below_alloc | apply pw_below_drewN | apply below_drew1) | exact HB.out)) hb); clear HO_6; clear HB; have HO_6 := n0_; have HB := n1_; clear n0_ n1_; (try clear hb); (try clear hb2); (try clear hk); (try clear hi)) | ((with_reducible refine gate_dst (N := 8) rfl ?_); refine box_event ?hg (N := 8) ?hd (cs := #[.int .i64 0, .int .i64 0]) (t := 67) ?hr ?_; (case hd => rfl); (case hg => rfl); (case hr => first | (go_simp; done) | (go_simp; rfl)); intro gb1138 hg w35 hbox hb; have n0_ := Aside0.mk (Kd.R_below (by (with_reducible repeat (first | apply Kd.R_alloc | apply Kd.R_drewN | apply Kd.R_drew)); exact HO_6.out) hb); have n1_ := Aside0.mk (below_step (by repeat (first | (with_reducible first | exact HB.out | apply below_alloc | apply pw_below_drewN | apply below_drew1) | exact HB.out)) hb); have n2_ := Aside0.mk (hbox); have n3_ := Aside0.mk ((by rw [hg]; exact (below_size (by repeat (first | (with_reducible first | exact HB.out | apply below_alloc | apply pw_below_drewN | apply below_drew1) | exact HB.out))) : w.heap.size ≤ gb1138)); have n4_ := Aside0.mk ((by rw [hg]; exact (below_size (by repeat (first | (with_reducible first | exact HB.out | apply below_alloc | apply pw_below_drewN | apply below_drew1) | exact HB.out))) : w.heap.size ≤ gb1138)); clear HO_6; clear HB; have HO_6 := n0_; have HB := n1_; have BK1138 := n2_; have GW1138 := n3_; have GE1138 := n4_; clear n0_ n1_ n2_ n3_ n4_; clear hb hbox hg; have hcz36_0 : w35.cell? ⟨gb1138, 0, none⟩ = some (.int .i64 0) := (blk_cell BK1138.out 0).trans rfl; have hcz36_1 : w35.cell? ⟨gb1138, 1, none⟩ = some (.int .i64 0) := (blk_cell BK1138.out 1).trans rfl; have hfz36_0 := blk_frozen BK1138.out 0; have hfz36_1 := blk_frozen BK1138.out 1))
                    have n0_ : Aside0 (Kd.R (Kd.int .i64) 3 ((w35.setCell ⟨gb1138, 0, none⟩ (.int .i64 t1136)).setCell ⟨gb1138, 1, none⟩ (.int .i64 t1137)) w.heap.size (fun _ => True) u6 x6_2) := ⟨by (with_reducible repeat (first | apply Kd.R_alloc | apply Kd.R_drewN | apply Kd.R_drew)); exact Kd.R_mono (Kd.R_far (p := ⟨gb1138, 1, none⟩) (Kd.R_far (p := ⟨gb1138, 0, none⟩) (Kd.R_types HO_6.out BK1138.out (by decide)) (fun _ hk => hk.2) (.int .i64 t1136)) (fun _ hk => hk.2) (.int .i64 t1137)) (fun _ hk => trivial)⟩
                    have n1_ : Aside0 (((w35.setCell ⟨gb1138, 0, none⟩ (.int .i64 t1136)).setCell ⟨gb1138, 1, none⟩ (.int .i64 t1137)).heap[gb1138]? = some (.cells #[.int .i64 t1136, .int .i64 t1137] 67 (0, 0))) := ⟨by (with_reducible repeat (first | refine blk_drewN ?_ _ | refine blk_drew ?_ | refine blk_alloc ?_ _)); refine blk_put (cs := #[.int .i64 t1136, .int .i64 0]) ?_ 1 _ rfl; (with_reducible repeat (first | refine blk_drewN ?_ _ | refine blk_drew ?_ | refine blk_alloc ?_ _)); refine blk_put (cs := #[.int .i64 0, .int .i64 0]) ?_ 0 _ rfl; (with_reducible repeat (first | refine blk_drewN ?_ _ | refine blk_drew ?_ | refine blk_alloc ?_ _)); exact BK1138.out⟩
                    have n2_ : Aside0 (Below w.heap.size w ((w35.setCell ⟨gb1138, 0, none⟩ (.int .i64 t1136)).setCell ⟨gb1138, 1, none⟩ (.int .i64 t1137))) := ⟨by repeat (first | (with_reducible first | exact HB.out | apply below_alloc | apply pw_below_drewN | apply below_drew1 | refine below_set ?_ GE1138.out) | exact HB.out)⟩
                    (try clear HO_6)
                    (try clear BK1138)
                    (try clear HB)
                    generalize ((w35.setCell ⟨gb1138, 0, none⟩ (.int .i64 t1136)).setCell ⟨gb1138, 1, none⟩ (.int .i64 t1137)) = w37 at n0_ n1_ n2_ ⊢
                    have HO_6 := n0_
                    have BK1138 := n1_
                    have HB := n2_
                    clear n0_ n1_ n2_
                    have n0_ := Aside0.mk (Kd.R_drew HO_6.out)
                    have n1_ := Aside0.mk (blk_drew BK1138.out)
                    have n2_ := Aside0.mk (below_drew1 HB.out)
                    clear HO_6
                    clear BK1138
                    clear HB
                    have HO_6 := n0_
                    have BK1138 := n1_
                    have HB := n2_
                    clear n0_ n1_ n2_
                    refine start_ (n := 16) (S := fun w' => w'.cell? ⟨gb1138, 0, none⟩ = some (.int .i64 t1136) ∧ w'.cell? ⟨gb1138, 1, none⟩ = some (.int .i64 t1137)) (ds := []) #[false, false, false, false, false, false, false, false, false, false, false, false, false, false, false, false] (by kernel_rfl) rfl rfl ⟨(blk_cell BK1138.out 0).trans rfl, (blk_cell BK1138.out 1).trans rfl⟩ (fun hHeld => ?_); refine with_tabW spec_PutDoubles.tab8 spec_PutDoubles.bits8 (fun HT_ HW_ => ?_)
                    generalize w37.drew = w38 at HO_6 BK1138 HB hHeld ⊢
                    refine pure_ (i := 0) (N := some 26) (v := ?_) (a' := ?_) #[true, false, false, false, false, false, false, false, false, false, false, false, false, false, false, false] rfl rfl (any_of HT_.out (by kernel_rfl)) (fun _ _ _ h => h) (Or.inl ⟨by rfl, ?_⟩) ?_ ?_
                    rotate_left
                    · intro w'
                      go_simp
                      with_reducible rfl
                    rotate_left
                    · simp only [Act.put, List.setIfInBounds_toArray, List.set_cons_zero, List.set_cons_succ, i64_w, i32_w]
                      rfl
                    refine take_ (i := 1) (N := some 27) (v := ?_) (a' := ?_) #[true, true, false, false, false, false, false, false, false, false, false, false, false, false, false, false] rfl rfl (take_ofW HT_.out HW_.out (by kernel_rfl)) (fun _ _ _ h => h) (Or.inl ⟨by rfl, ?_⟩) hHeld ?_ ?_
                    rotate_left
                    · rintro w' ⟨s0, s1⟩
                      go_simp
                      with_reducible rfl
                    rotate_left
                    · simp only [Act.put, List.setIfInBounds_toArray, List.set_cons_zero, List.set_cons_succ, i64_w, i32_w]
                      rfl
                    refine one_ (i := 2) (N := some 28) #[true, true, true, false, false, false, false, false, false, false, false, false, false, false, false, false] rfl rfl (one_of HT_.out (by kernel_rfl)) (by decide) (fun K hK => ?_)
                    refine goes_ Try.func110 (by kernel_rfl) rfl #[.slice A1 l1.length c1, .agg #[.int .i64 t1136, .int .i64 t1137]] (by rfl) rfl rfl (by (try simp only [List.map_toArray, List.map_cons, List.map_nil]); first | done | rfl | (simp only [List.length_drop, List.length_take]; rfl)) ?_
                    with_reducible refine (spec_tiPlace.calls k2 _ _ l1 t1136 t1137 t1139 _ ?side1 ?side2 A15.out).mono ?_
                    (case side1 => repeat (first | exact (Kd.C_below HR1.out HB.out) | (with_reducible refine Kd.C_alloc ?_ _) | (with_reducible refine Kd.C_drewN ?_ _) | (with_reducible refine Kd.C_drew ?_)))
                    (case side2 => exact HC1.out)
                    rintro e w39 ⟨rfl, hb⟩
                    refine ⟨_, rfl, ?_⟩
                    have n0_ := Aside0.mk (Kd.R_below (by (with_reducible repeat (first | apply Kd.R_alloc | apply Kd.R_drewN | apply Kd.R_drew)); exact HO_6.out) hb)
                    have n1_ := Aside0.mk (blk_below (g := gb1138) (o := .cells #[.int .i64 t1136, .int .i64 t1137] 67 (0, 0)) (by (with_reducible repeat (first | refine blk_drewN ?_ _ | refine blk_drew ?_ | refine blk_alloc ?_ _)); exact BK1138.out) hb)
                    have n2_ := Aside0.mk (below_step (by repeat (first | (with_reducible first | exact HB.out | apply below_alloc | apply pw_below_drewN | apply below_drew1 | refine below_set ?_ GE1138.out) | exact HB.out)) hb)
                    clear HO_6
                    clear BK1138
                    clear HB
                    have HO_6 := n0_
                    have BK1138 := n1_
                    have HB := n2_
                    clear n0_ n1_ n2_
                    (try clear hb)
                    (try clear hb2)
                    (try clear hk)
                    (try clear hi)
                    refine hK.out _ _ ⟨(blk_cell BK1138.out 0).trans rfl, (blk_cell BK1138.out 1).trans rfl⟩ (fun hHeld => ?_)
                    clear hK K
                    refine norm_ (a' := ?_) ?_ ?_
                    rotate_left
                    · show Act.put _ (some 28) _ = _
                      simp only [Act.put, List.setIfInBounds_toArray, List.set_cons_zero, List.set_cons_succ, i64_w, i32_w]
                      rfl
                    refine pure_ (i := 3) (N := some 29) (v := ?_) (a' := ?_) #[true, true, true, true, false, false, false, false, false, false, false, false, false, false, false, false] rfl rfl (any_of HT_.out (by kernel_rfl)) (fun _ _ _ h => h) (Or.inl ⟨by rfl, ?_⟩) ?_ ?_
                    rotate_left
                    · intro w'
                      go_simp
                      with_reducible rfl
                    rotate_left
                    · simp only [Act.put, List.setIfInBounds_toArray, List.set_cons_zero, List.set_cons_succ, i64_w, i32_w]
                      rfl
                    refine pure_ (i := 4) (N := some 30) (v := ?_) (a' := ?_) #[true, true, true, true, true, false, false, false, false, false, false, false, false, false, false, false] rfl rfl (any_of HT_.out (by kernel_rfl)) (fun _ _ _ h => h) (Or.inl ⟨by rfl, ?_⟩) ?_ ?_
                    rotate_left
                    · intro w'
                      go_simp
                      with_reducible rfl
                    rotate_left
                    · simp only [Act.put, List.setIfInBounds_toArray, List.set_cons_zero, List.set_cons_succ, i64_w, i32_w]
                      rfl
                    refine pure_ (i := 5) (N := some 31) (v := ?_) (a' := ?_) #[true, true, true, true, true, true, false, false, false, false, false, false, false, false, false, false] rfl rfl (any_of HT_.out (by kernel_rfl)) (fun _ _ _ h => h) (Or.inl ⟨by rfl, ?_⟩) ?_ ?_
                    rotate_left
                    · intro w'
                      go_simp
                      with_reducible rfl
                    rotate_left
                    · simp only [Act.put, List.setIfInBounds_toArray, List.set_cons_zero, List.set_cons_succ, i64_w, i32_w]
                      rfl
                    refine take_ (i := 7) (N := some 33) (v := ?_) (a' := ?_) #[true, true, true, true, true, true, false, true, false, false, false, false, false, false, false, false] rfl rfl (take_ofW HT_.out HW_.out (by kernel_rfl)) (fun _ _ _ h => h) (Or.inl ⟨by rfl, ?_⟩) hHeld ?_ ?_
                    rotate_left
                    · rintro w' ⟨s0, s1⟩
                      go_simp
                      with_reducible rfl
                    rotate_left
                    · simp only [Act.put, List.setIfInBounds_toArray, List.set_cons_zero, List.set_cons_succ, i64_w, i32_w]
                      rfl
                    refine one_ (i := 6) (N := some 32) #[true, true, true, true, true, true, true, true, false, false, false, false, false, false, false, false] rfl rfl (one_of HT_.out (by kernel_rfl)) (by decide) (fun K hK => ?_)
                    refine goes_ Try.func109 (by kernel_rfl) rfl #[.slice A0 l0.length c0] (by rfl) rfl rfl (by (try simp only [List.map_toArray, List.map_cons, List.map_nil]); first | done | rfl | (simp only [List.length_drop, List.length_take]; rfl)) ?_
                    with_reducible refine (spec_haTiles.calls k2 _ _ l0 t1140 _ ?side1 ?side2 A17.out).mono ?_
                    (case side1 => repeat (first | exact (Kd.C_below HR0.out HB.out) | (with_reducible refine Kd.C_alloc ?_ _) | (with_reducible refine Kd.C_drewN ?_ _) | (with_reducible refine Kd.C_drew ?_)))
                    (case side2 => exact HC0.out)
                    rintro e w40 ⟨v1141, rfl, ho0, hb⟩
                    refine ⟨_, rfl, ?_⟩
                    have n0_ := Aside0.mk (Kd.R_below (by (with_reducible repeat (first | apply Kd.R_alloc | apply Kd.R_drewN | apply Kd.R_drew)); exact HO_6.out) hb)
                    have n1_ := Aside0.mk (Kd.R_lower (Kd.R_newB ho0 (g := gb1138) (o := .cells #[.int .i64 t1136, .int .i64 t1137] 67 (0, 0)) (by (with_reducible repeat (first | refine blk_drewN ?_ _ | refine blk_drew ?_ | refine blk_alloc ?_ _)); exact BK1138.out)) (below_size (by repeat (first | (with_reducible first | exact HB.out | apply below_alloc | apply pw_below_drewN | apply below_drew1 | refine below_set ?_ GE1138.out) | exact HB.out))))
                    have n2_ := Aside0.mk (blk_below (g := gb1138) (o := .cells #[.int .i64 t1136, .int .i64 t1137] 67 (0, 0)) (by (with_reducible repeat (first | refine blk_drewN ?_ _ | refine blk_drew ?_ | refine blk_alloc ?_ _)); exact BK1138.out) hb)
                    have n3_ := Aside0.mk (below_step (by repeat (first | (with_reducible first | exact HB.out | apply below_alloc | apply pw_below_drewN | apply below_drew1 | refine below_set ?_ GE1138.out) | exact HB.out)) hb)
                    clear HO_6
                    clear BK1138
                    clear HB
                    have HO_6 := n0_
                    have HO1142 := n1_
                    have BK1138 := n2_
                    have HB := n3_
                    clear n0_ n1_ n2_ n3_
                    (try clear hb)
                    (try clear hb2)
                    (try clear hk)
                    (try clear hi)
                    (try clear ho0)
                    obtain ⟨Ao41, co41, eo41⟩ := Kd.R_slice HO1142.out
                    (first | subst eo41 | (injection eo41 with f1_ f2_ f3_; have f4_ := f1_.symm; have f5_ := f3_.symm; clear f1_ f2_ f3_; subst f4_; subst f5_))
                    refine hK.out _ _ ⟨(blk_cell BK1138.out 0).trans rfl, (blk_cell BK1138.out 1).trans rfl⟩ (fun hHeld => ?_)
                    clear hK K
                    refine norm_ (a' := ?_) ?_ ?_
                    rotate_left
                    · show Act.put _ (some 32) _ = _
                      simp only [Act.put, List.setIfInBounds_toArray, List.set_cons_zero, List.set_cons_succ, i64_w, i32_w]
                      rfl
                    refine one_ (i := 8) (N := some 34) #[true, true, true, true, true, true, true, true, true, false, false, false, false, false, false, false] rfl rfl (one_of HT_.out (by kernel_rfl)) (by decide) (fun K hK => ?_)
                    refine goes_ Try.func110 (by kernel_rfl) rfl #[.slice Ao41 t1140.length co41, .agg #[.int .i64 t1136, .int .i64 t1137]] (by rfl) rfl rfl (by (try simp only [List.map_toArray, List.map_cons, List.map_nil]); first | done | rfl | (simp only [List.length_drop, List.length_take]; rfl)) ?_
                    with_reducible refine (spec_tiPlace.calls k2 _ _ t1140 t1136 t1137 t1143 _ ?side1 ?side2 A18.out).mono ?_
                    (case side1 => repeat (first | exact (Kd.R_reads' HO1142.out).2.2 | (with_reducible refine Kd.C_alloc ?_ _) | (with_reducible refine Kd.C_drewN ?_ _) | (with_reducible refine Kd.C_drew ?_)))
                    (case side2 => exact (Kd.R_reads' HO1142.out).2.1)
                    rintro e w42 ⟨rfl, hb⟩
                    refine ⟨_, rfl, ?_⟩
                    have n0_ := Aside0.mk (Kd.R_below (by (with_reducible repeat (first | apply Kd.R_alloc | apply Kd.R_drewN | apply Kd.R_drew)); exact HO_6.out) hb)
                    have n1_ := Aside0.mk (Kd.R_below (by (with_reducible repeat (first | apply Kd.R_alloc | apply Kd.R_drewN | apply Kd.R_drew)); exact HO1142.out) hb)
                    have n2_ := Aside0.mk (blk_below (g := gb1138) (o := .cells #[.int .i64 t1136, .int .i64 t1137] 67 (0, 0)) (by (with_reducible repeat (first | refine blk_drewN ?_ _ | refine blk_drew ?_ | refine blk_alloc ?_ _)); exact BK1138.out) hb)
                    have n3_ := Aside0.mk (below_step (by repeat (first | (with_reducible first | exact HB.out | apply below_alloc | apply pw_below_drewN | apply below_drew1 | refine below_set ?_ GE1138.out) | exact HB.out)) hb)
                    clear HO_6
                    clear HO1142
                    clear BK1138
                    clear HB
                    have HO_6 := n0_
                    have HO1142 := n1_
                    have BK1138 := n2_
                    have HB := n3_
                    clear n0_ n1_ n2_ n3_
                    (try clear hb)
                    (try clear hb2)
                    (try clear hk)
                    (try clear hi)
                    refine hK.out _ _ ⟨(blk_cell BK1138.out 0).trans rfl, (blk_cell BK1138.out 1).trans rfl⟩ (fun hHeld => ?_)
                    clear hK K
                    refine norm_ (a' := ?_) ?_ ?_
                    rotate_left
                    · show Act.put _ (some 34) _ = _
                      simp only [Act.put, List.setIfInBounds_toArray, List.set_cons_zero, List.set_cons_succ, i64_w, i32_w]
                      rfl
                    refine pure_ (i := 9) (N := some 35) (v := ?_) (a' := ?_) #[true, true, true, true, true, true, true, true, true, true, false, false, false, false, false, false] rfl rfl (any_of HT_.out (by kernel_rfl)) (fun _ _ _ h => h) (Or.inl ⟨by rfl, ?_⟩) ?_ ?_
                    rotate_left
                    · intro w'
                      go_simp
                      with_reducible rfl
                    rotate_left
                    · simp only [Act.put, List.setIfInBounds_toArray, List.set_cons_zero, List.set_cons_succ, i64_w, i32_w]
                      rfl
                    refine pure_ (i := 10) (N := some 36) (v := ?_) (a' := ?_) #[true, true, true, true, true, true, true, true, true, true, true, false, false, false, false, false] rfl rfl (any_of HT_.out (by kernel_rfl)) (fun _ _ _ h => h) (Or.inl ⟨by rfl, ?_⟩) ?_ ?_
                    rotate_left
                    · intro w'
                      go_simp
                      with_reducible rfl
                    rotate_left
                    · simp only [Act.put, List.setIfInBounds_toArray, List.set_cons_zero, List.set_cons_succ, i64_w, i32_w]
                      rfl
                    refine pure_ (i := 11) (N := some 37) (v := ?_) (a' := ?_) #[true, true, true, true, true, true, true, true, true, true, true, true, false, false, false, false] rfl rfl (any_of HT_.out (by kernel_rfl)) (fun _ _ _ h => h) (Or.inl ⟨by rfl, ?_⟩) ?_ ?_
                    rotate_left
                    · intro w'
                      go_simp
                      with_reducible rfl
                    rotate_left
                    · simp only [Act.put, List.setIfInBounds_toArray, List.set_cons_zero, List.set_cons_succ, i64_w, i32_w]
                      rfl
                    refine pure_ (i := 12) (N := some 38) (v := ?_) (a' := ?_) #[true, true, true, true, true, true, true, true, true, true, true, true, true, false, false, false] rfl rfl (any_of HT_.out (by kernel_rfl)) (fun _ _ _ h => h) (Or.inl ⟨by rfl, ?_⟩) ?_ ?_
                    rotate_left
                    · intro w'
                      go_simp
                      with_reducible rfl
                    rotate_left
                    · simp only [Act.put, List.setIfInBounds_toArray, List.set_cons_zero, List.set_cons_succ, i64_w, i32_w]
                      rfl
                    refine pure_ (i := 13) (N := some 39) (v := ?_) (a' := ?_) #[true, true, true, true, true, true, true, true, true, true, true, true, true, true, false, false] rfl rfl (any_of HT_.out (by kernel_rfl)) (fun _ _ _ h => h) (Or.inl ⟨by rfl, ?_⟩) ?_ ?_
                    rotate_left
                    · intro w'
                      go_simp
                      with_reducible rfl
                    rotate_left
                    · simp only [Act.put, List.setIfInBounds_toArray, List.set_cons_zero, List.set_cons_succ, i64_w, i32_w]
                      rfl
                    refine one_ (i := 14) (N := some 40) #[true, true, true, true, true, true, true, true, true, true, true, true, true, true, true, false] rfl rfl (one_of HT_.out (by kernel_rfl)) (by decide) (fun K hK => ?_)
                    refine goes_ Try.func104 (by kernel_rfl) rfl #[.slice A0 l0.length c0, .int .i64 x7_2] (by rfl) rfl rfl (by (try simp only [List.map_toArray, List.map_cons, List.map_nil]); first | done | rfl | (simp only [List.length_drop, List.length_take]; rfl)) ?_
                    with_reducible refine (spec_l1Has.calls k2 _ _ l0 x7_2 false _ ?side1 ?side2 A20.out).mono ?_
                    (case side1 => repeat (first | exact (Kd.C_below HR0.out HB.out) | (with_reducible refine Kd.C_alloc ?_ _) | (with_reducible refine Kd.C_drewN ?_ _) | (with_reducible refine Kd.C_drew ?_)))
                    (case side2 => exact HC0.out)
                    rintro e w' ⟨rfl, ⟨nd, rfl⟩⟩
                    refine ⟨_, rfl, ?_⟩
                    refine hK.out _ _ ⟨(blk_cell BK1138.out 0).trans rfl, (blk_cell BK1138.out 1).trans rfl⟩ (fun hHeld => ?_)
                    clear hK K
                    refine norm_ (a' := ?_) ?_ ?_
                    rotate_left
                    · show Act.put _ (some 40) _ = _
                      simp only [Act.put, List.setIfInBounds_toArray, List.set_cons_zero, List.set_cons_succ, i64_w, i32_w]
                      rfl
                    refine pure_ (i := 15) (N := some 41) (v := ?_) (a' := ?_) #[true, true, true, true, true, true, true, true, true, true, true, true, true, true, true, true] rfl rfl (any_of HT_.out (by kernel_rfl)) (fun _ _ _ h => h) (Or.inl ⟨by rfl, ?_⟩) ?_ ?_
                    rotate_left
                    · intro w'
                      go_simp
                      with_reducible rfl
                    rotate_left
                    · simp only [Act.put, List.setIfInBounds_toArray, List.set_cons_zero, List.set_cons_succ, i64_w, i32_w]
                      rfl
                    refine done_ (done_of HT_.out (by kernel_rfl)) ?_
                    try go_wp2
                    go_roundg k2
                    case measure => have := HJ2.out; have := HK2.out; omega
                    case rel => exact ⟨(x6_2), (wrap64 (x7_2 + 1)), (by first | rfl | (simp; done) | (simp [*]; done)), H', ⟨by have := HJ2.out; have := HK2.out; omega⟩, ⟨by (with_reducible repeat (first | apply Kd.R_alloc | apply Kd.R_drewN | apply Kd.R_drew)); exact HO_6.out⟩, ⟨by repeat (first | (with_reducible first | exact HB.out | apply below_alloc | apply pw_below_drewN | apply below_drew1 | refine below_set ?_ GE1138.out) | exact HB.out)⟩⟩
                · rw [if_neg c19] at H
                  have c19b0 : decide (t1143 < 0) = false := decide_eq_false c19
                  clear c19
                  have H' := Aside0.mk H
                  clear H
                  try go_wp2_with (first | ((with_reducible refine gate_callee (f := 105) rfl ?_); refine goesL_ (some 25) rfl rfl Try.func105 (by kernel_rfl) rfl #[.int .i64 x7_2, .int .i64 x7_2] rfl (by (try simp only [List.map_toArray, List.map_cons, List.map_nil]); first | done | rfl | (simp only [List.length_drop, List.length_take]; rfl)) ?_; (with_reducible refine (spec_tiOf.calls x7_2 x7_2 t1136 t1137 _ A14.out).mono ?_); rintro e w43 ⟨rfl, hb⟩; refine ⟨_, rfl, ?_⟩; have n0_ := Aside0.mk (Kd.R_below (by (with_reducible repeat (first | apply Kd.R_alloc | apply Kd.R_drewN | apply Kd.R_drew)); exact HO_6.out) hb); have n1_ := Aside0.mk (below_step (by repeat (first | (with_reducible first | exact HB.out | apply below_alloc | apply pw_below_drewN | apply below_drew1) | exact HB.out)) hb); clear HO_6; clear HB; have HO_6 := n0_; have HB := n1_; clear n0_ n1_; (try clear hb); (try clear hb2); (try clear hk); (try clear hi)) | ((with_reducible refine gate_dst (N := 8) rfl ?_); refine box_event ?hg (N := 8) ?hd (cs := #[.int .i64 0, .int .i64 0]) (t := 67) ?hr ?_; (case hd => rfl); (case hg => rfl); (case hr => first | (go_simp; done) | (go_simp; rfl)); intro gb1138 hg w44 hbox hb; have n0_ := Aside0.mk (Kd.R_below (by (with_reducible repeat (first | apply Kd.R_alloc | apply Kd.R_drewN | apply Kd.R_drew)); exact HO_6.out) hb); have n1_ := Aside0.mk (below_step (by repeat (first | (with_reducible first | exact HB.out | apply below_alloc | apply pw_below_drewN | apply below_drew1) | exact HB.out)) hb); have n2_ := Aside0.mk (hbox); have n3_ := Aside0.mk ((by rw [hg]; exact (below_size (by repeat (first | (with_reducible first | exact HB.out | apply below_alloc | apply pw_below_drewN | apply below_drew1) | exact HB.out))) : w.heap.size ≤ gb1138)); have n4_ := Aside0.mk ((by rw [hg]; exact (below_size (by repeat (first | (with_reducible first | exact HB.out | apply below_alloc | apply pw_below_drewN | apply below_drew1) | exact HB.out))) : w.heap.size ≤ gb1138)); clear HO_6; clear HB; have HO_6 := n0_; have HB := n1_; have BK1138 := n2_; have GW1138 := n3_; have GE1138 := n4_; clear n0_ n1_ n2_ n3_ n4_; clear hb hbox hg; have hcz45_0 : w44.cell? ⟨gb1138, 0, none⟩ = some (.int .i64 0) := (blk_cell BK1138.out 0).trans rfl; have hcz45_1 : w44.cell? ⟨gb1138, 1, none⟩ = some (.int .i64 0) := (blk_cell BK1138.out 1).trans rfl; have hfz45_0 := blk_frozen BK1138.out 0; have hfz45_1 := blk_frozen BK1138.out 1))
                  have n0_ : Aside0 (Kd.R (Kd.int .i64) 3 ((w44.setCell ⟨gb1138, 0, none⟩ (.int .i64 t1136)).setCell ⟨gb1138, 1, none⟩ (.int .i64 t1137)) w.heap.size (fun _ => True) u6 x6_2) := ⟨by (with_reducible repeat (first | apply Kd.R_alloc | apply Kd.R_drewN | apply Kd.R_drew)); exact Kd.R_mono (Kd.R_far (p := ⟨gb1138, 1, none⟩) (Kd.R_far (p := ⟨gb1138, 0, none⟩) (Kd.R_types HO_6.out BK1138.out (by decide)) (fun _ hk => hk.2) (.int .i64 t1136)) (fun _ hk => hk.2) (.int .i64 t1137)) (fun _ hk => trivial)⟩
                  have n1_ : Aside0 (((w44.setCell ⟨gb1138, 0, none⟩ (.int .i64 t1136)).setCell ⟨gb1138, 1, none⟩ (.int .i64 t1137)).heap[gb1138]? = some (.cells #[.int .i64 t1136, .int .i64 t1137] 67 (0, 0))) := ⟨by (with_reducible repeat (first | refine blk_drewN ?_ _ | refine blk_drew ?_ | refine blk_alloc ?_ _)); refine blk_put (cs := #[.int .i64 t1136, .int .i64 0]) ?_ 1 _ rfl; (with_reducible repeat (first | refine blk_drewN ?_ _ | refine blk_drew ?_ | refine blk_alloc ?_ _)); refine blk_put (cs := #[.int .i64 0, .int .i64 0]) ?_ 0 _ rfl; (with_reducible repeat (first | refine blk_drewN ?_ _ | refine blk_drew ?_ | refine blk_alloc ?_ _)); exact BK1138.out⟩
                  have n2_ : Aside0 (Below w.heap.size w ((w44.setCell ⟨gb1138, 0, none⟩ (.int .i64 t1136)).setCell ⟨gb1138, 1, none⟩ (.int .i64 t1137))) := ⟨by repeat (first | (with_reducible first | exact HB.out | apply below_alloc | apply pw_below_drewN | apply below_drew1 | refine below_set ?_ GE1138.out) | exact HB.out)⟩
                  (try clear HO_6)
                  (try clear BK1138)
                  (try clear HB)
                  generalize ((w44.setCell ⟨gb1138, 0, none⟩ (.int .i64 t1136)).setCell ⟨gb1138, 1, none⟩ (.int .i64 t1137)) = w46 at n0_ n1_ n2_ ⊢
                  have HO_6 := n0_
                  have BK1138 := n1_
                  have HB := n2_
                  clear n0_ n1_ n2_
                  have n0_ := Aside0.mk (Kd.R_drew HO_6.out)
                  have n1_ := Aside0.mk (blk_drew BK1138.out)
                  have n2_ := Aside0.mk (below_drew1 HB.out)
                  clear HO_6
                  clear BK1138
                  clear HB
                  have HO_6 := n0_
                  have BK1138 := n1_
                  have HB := n2_
                  clear n0_ n1_ n2_
                  refine start_ (n := 16) (S := fun w' => w'.cell? ⟨gb1138, 0, none⟩ = some (.int .i64 t1136) ∧ w'.cell? ⟨gb1138, 1, none⟩ = some (.int .i64 t1137)) (ds := []) #[false, false, false, false, false, false, false, false, false, false, false, false, false, false, false, false] (by kernel_rfl) rfl rfl ⟨(blk_cell BK1138.out 0).trans rfl, (blk_cell BK1138.out 1).trans rfl⟩ (fun hHeld => ?_); refine with_tabW spec_PutDoubles.tab8 spec_PutDoubles.bits8 (fun HT_ HW_ => ?_)
                  generalize w46.drew = w47 at HO_6 BK1138 HB hHeld ⊢
                  refine pure_ (i := 0) (N := some 26) (v := ?_) (a' := ?_) #[true, false, false, false, false, false, false, false, false, false, false, false, false, false, false, false] rfl rfl (any_of HT_.out (by kernel_rfl)) (fun _ _ _ h => h) (Or.inl ⟨by rfl, ?_⟩) ?_ ?_
                  rotate_left
                  · intro w'
                    go_simp
                    with_reducible rfl
                  rotate_left
                  · simp only [Act.put, List.setIfInBounds_toArray, List.set_cons_zero, List.set_cons_succ, i64_w, i32_w]
                    rfl
                  refine take_ (i := 1) (N := some 27) (v := ?_) (a' := ?_) #[true, true, false, false, false, false, false, false, false, false, false, false, false, false, false, false] rfl rfl (take_ofW HT_.out HW_.out (by kernel_rfl)) (fun _ _ _ h => h) (Or.inl ⟨by rfl, ?_⟩) hHeld ?_ ?_
                  rotate_left
                  · rintro w' ⟨s0, s1⟩
                    go_simp
                    with_reducible rfl
                  rotate_left
                  · simp only [Act.put, List.setIfInBounds_toArray, List.set_cons_zero, List.set_cons_succ, i64_w, i32_w]
                    rfl
                  refine one_ (i := 2) (N := some 28) #[true, true, true, false, false, false, false, false, false, false, false, false, false, false, false, false] rfl rfl (one_of HT_.out (by kernel_rfl)) (by decide) (fun K hK => ?_)
                  refine goes_ Try.func110 (by kernel_rfl) rfl #[.slice A1 l1.length c1, .agg #[.int .i64 t1136, .int .i64 t1137]] (by rfl) rfl rfl (by (try simp only [List.map_toArray, List.map_cons, List.map_nil]); first | done | rfl | (simp only [List.length_drop, List.length_take]; rfl)) ?_
                  with_reducible refine (spec_tiPlace.calls k2 _ _ l1 t1136 t1137 t1139 _ ?side1 ?side2 A15.out).mono ?_
                  (case side1 => repeat (first | exact (Kd.C_below HR1.out HB.out) | (with_reducible refine Kd.C_alloc ?_ _) | (with_reducible refine Kd.C_drewN ?_ _) | (with_reducible refine Kd.C_drew ?_)))
                  (case side2 => exact HC1.out)
                  rintro e w48 ⟨rfl, hb⟩
                  refine ⟨_, rfl, ?_⟩
                  have n0_ := Aside0.mk (Kd.R_below (by (with_reducible repeat (first | apply Kd.R_alloc | apply Kd.R_drewN | apply Kd.R_drew)); exact HO_6.out) hb)
                  have n1_ := Aside0.mk (blk_below (g := gb1138) (o := .cells #[.int .i64 t1136, .int .i64 t1137] 67 (0, 0)) (by (with_reducible repeat (first | refine blk_drewN ?_ _ | refine blk_drew ?_ | refine blk_alloc ?_ _)); exact BK1138.out) hb)
                  have n2_ := Aside0.mk (below_step (by repeat (first | (with_reducible first | exact HB.out | apply below_alloc | apply pw_below_drewN | apply below_drew1 | refine below_set ?_ GE1138.out) | exact HB.out)) hb)
                  clear HO_6
                  clear BK1138
                  clear HB
                  have HO_6 := n0_
                  have BK1138 := n1_
                  have HB := n2_
                  clear n0_ n1_ n2_
                  (try clear hb)
                  (try clear hb2)
                  (try clear hk)
                  (try clear hi)
                  refine hK.out _ _ ⟨(blk_cell BK1138.out 0).trans rfl, (blk_cell BK1138.out 1).trans rfl⟩ (fun hHeld => ?_)
                  clear hK K
                  refine norm_ (a' := ?_) ?_ ?_
                  rotate_left
                  · show Act.put _ (some 28) _ = _
                    simp only [Act.put, List.setIfInBounds_toArray, List.set_cons_zero, List.set_cons_succ, i64_w, i32_w]
                    rfl
                  refine pure_ (i := 3) (N := some 29) (v := ?_) (a' := ?_) #[true, true, true, true, false, false, false, false, false, false, false, false, false, false, false, false] rfl rfl (any_of HT_.out (by kernel_rfl)) (fun _ _ _ h => h) (Or.inl ⟨by rfl, ?_⟩) ?_ ?_
                  rotate_left
                  · intro w'
                    go_simp
                    with_reducible rfl
                  rotate_left
                  · simp only [Act.put, List.setIfInBounds_toArray, List.set_cons_zero, List.set_cons_succ, i64_w, i32_w]
                    rfl
                  refine pure_ (i := 4) (N := some 30) (v := ?_) (a' := ?_) #[true, true, true, true, true, false, false, false, false, false, false, false, false, false, false, false] rfl rfl (any_of HT_.out (by kernel_rfl)) (fun _ _ _ h => h) (Or.inl ⟨by rfl, ?_⟩) ?_ ?_
                  rotate_left
                  · intro w'
                    go_simp
                    with_reducible rfl
                  rotate_left
                  · simp only [Act.put, List.setIfInBounds_toArray, List.set_cons_zero, List.set_cons_succ, i64_w, i32_w]
                    rfl
                  refine pure_ (i := 5) (N := some 31) (v := ?_) (a' := ?_) #[true, true, true, true, true, true, false, false, false, false, false, false, false, false, false, false] rfl rfl (any_of HT_.out (by kernel_rfl)) (fun _ _ _ h => h) (Or.inl ⟨by rfl, ?_⟩) ?_ ?_
                  rotate_left
                  · intro w'
                    go_simp
                    with_reducible rfl
                  rotate_left
                  · simp only [Act.put, List.setIfInBounds_toArray, List.set_cons_zero, List.set_cons_succ, i64_w, i32_w]
                    rfl
                  refine take_ (i := 7) (N := some 33) (v := ?_) (a' := ?_) #[true, true, true, true, true, true, false, true, false, false, false, false, false, false, false, false] rfl rfl (take_ofW HT_.out HW_.out (by kernel_rfl)) (fun _ _ _ h => h) (Or.inl ⟨by rfl, ?_⟩) hHeld ?_ ?_
                  rotate_left
                  · rintro w' ⟨s0, s1⟩
                    go_simp
                    with_reducible rfl
                  rotate_left
                  · simp only [Act.put, List.setIfInBounds_toArray, List.set_cons_zero, List.set_cons_succ, i64_w, i32_w]
                    rfl
                  refine one_ (i := 6) (N := some 32) #[true, true, true, true, true, true, true, true, false, false, false, false, false, false, false, false] rfl rfl (one_of HT_.out (by kernel_rfl)) (by decide) (fun K hK => ?_)
                  refine goes_ Try.func109 (by kernel_rfl) rfl #[.slice A0 l0.length c0] (by rfl) rfl rfl (by (try simp only [List.map_toArray, List.map_cons, List.map_nil]); first | done | rfl | (simp only [List.length_drop, List.length_take]; rfl)) ?_
                  with_reducible refine (spec_haTiles.calls k2 _ _ l0 t1140 _ ?side1 ?side2 A17.out).mono ?_
                  (case side1 => repeat (first | exact (Kd.C_below HR0.out HB.out) | (with_reducible refine Kd.C_alloc ?_ _) | (with_reducible refine Kd.C_drewN ?_ _) | (with_reducible refine Kd.C_drew ?_)))
                  (case side2 => exact HC0.out)
                  rintro e w49 ⟨v1141, rfl, ho0, hb⟩
                  refine ⟨_, rfl, ?_⟩
                  have n0_ := Aside0.mk (Kd.R_below (by (with_reducible repeat (first | apply Kd.R_alloc | apply Kd.R_drewN | apply Kd.R_drew)); exact HO_6.out) hb)
                  have n1_ := Aside0.mk (Kd.R_lower (Kd.R_newB ho0 (g := gb1138) (o := .cells #[.int .i64 t1136, .int .i64 t1137] 67 (0, 0)) (by (with_reducible repeat (first | refine blk_drewN ?_ _ | refine blk_drew ?_ | refine blk_alloc ?_ _)); exact BK1138.out)) (below_size (by repeat (first | (with_reducible first | exact HB.out | apply below_alloc | apply pw_below_drewN | apply below_drew1 | refine below_set ?_ GE1138.out) | exact HB.out))))
                  have n2_ := Aside0.mk (blk_below (g := gb1138) (o := .cells #[.int .i64 t1136, .int .i64 t1137] 67 (0, 0)) (by (with_reducible repeat (first | refine blk_drewN ?_ _ | refine blk_drew ?_ | refine blk_alloc ?_ _)); exact BK1138.out) hb)
                  have n3_ := Aside0.mk (below_step (by repeat (first | (with_reducible first | exact HB.out | apply below_alloc | apply pw_below_drewN | apply below_drew1 | refine below_set ?_ GE1138.out) | exact HB.out)) hb)
                  clear HO_6
                  clear BK1138
                  clear HB
                  have HO_6 := n0_
                  have HO1142 := n1_
                  have BK1138 := n2_
                  have HB := n3_
                  clear n0_ n1_ n2_ n3_
                  (try clear hb)
                  (try clear hb2)
                  (try clear hk)
                  (try clear hi)
                  (try clear ho0)
                  obtain ⟨Ao50, co50, eo50⟩ := Kd.R_slice HO1142.out
                  (first | subst eo50 | (injection eo50 with f1_ f2_ f3_; have f4_ := f1_.symm; have f5_ := f3_.symm; clear f1_ f2_ f3_; subst f4_; subst f5_))
                  refine hK.out _ _ ⟨(blk_cell BK1138.out 0).trans rfl, (blk_cell BK1138.out 1).trans rfl⟩ (fun hHeld => ?_)
                  clear hK K
                  refine norm_ (a' := ?_) ?_ ?_
                  rotate_left
                  · show Act.put _ (some 32) _ = _
                    simp only [Act.put, List.setIfInBounds_toArray, List.set_cons_zero, List.set_cons_succ, i64_w, i32_w]
                    rfl
                  refine one_ (i := 8) (N := some 34) #[true, true, true, true, true, true, true, true, true, false, false, false, false, false, false, false] rfl rfl (one_of HT_.out (by kernel_rfl)) (by decide) (fun K hK => ?_)
                  refine goes_ Try.func110 (by kernel_rfl) rfl #[.slice Ao50 t1140.length co50, .agg #[.int .i64 t1136, .int .i64 t1137]] (by rfl) rfl rfl (by (try simp only [List.map_toArray, List.map_cons, List.map_nil]); first | done | rfl | (simp only [List.length_drop, List.length_take]; rfl)) ?_
                  with_reducible refine (spec_tiPlace.calls k2 _ _ t1140 t1136 t1137 t1143 _ ?side1 ?side2 A18.out).mono ?_
                  (case side1 => repeat (first | exact (Kd.R_reads' HO1142.out).2.2 | (with_reducible refine Kd.C_alloc ?_ _) | (with_reducible refine Kd.C_drewN ?_ _) | (with_reducible refine Kd.C_drew ?_)))
                  (case side2 => exact (Kd.R_reads' HO1142.out).2.1)
                  rintro e w51 ⟨rfl, hb⟩
                  refine ⟨_, rfl, ?_⟩
                  have n0_ := Aside0.mk (Kd.R_below (by (with_reducible repeat (first | apply Kd.R_alloc | apply Kd.R_drewN | apply Kd.R_drew)); exact HO_6.out) hb)
                  have n1_ := Aside0.mk (Kd.R_below (by (with_reducible repeat (first | apply Kd.R_alloc | apply Kd.R_drewN | apply Kd.R_drew)); exact HO1142.out) hb)
                  have n2_ := Aside0.mk (blk_below (g := gb1138) (o := .cells #[.int .i64 t1136, .int .i64 t1137] 67 (0, 0)) (by (with_reducible repeat (first | refine blk_drewN ?_ _ | refine blk_drew ?_ | refine blk_alloc ?_ _)); exact BK1138.out) hb)
                  have n3_ := Aside0.mk (below_step (by repeat (first | (with_reducible first | exact HB.out | apply below_alloc | apply pw_below_drewN | apply below_drew1 | refine below_set ?_ GE1138.out) | exact HB.out)) hb)
                  clear HO_6
                  clear HO1142
                  clear BK1138
                  clear HB
                  have HO_6 := n0_
                  have HO1142 := n1_
                  have BK1138 := n2_
                  have HB := n3_
                  clear n0_ n1_ n2_ n3_
                  (try clear hb)
                  (try clear hb2)
                  (try clear hk)
                  (try clear hi)
                  refine hK.out _ _ ⟨(blk_cell BK1138.out 0).trans rfl, (blk_cell BK1138.out 1).trans rfl⟩ (fun hHeld => ?_)
                  clear hK K
                  refine norm_ (a' := ?_) ?_ ?_
                  rotate_left
                  · show Act.put _ (some 34) _ = _
                    simp only [Act.put, List.setIfInBounds_toArray, List.set_cons_zero, List.set_cons_succ, i64_w, i32_w]
                    rfl
                  refine pure_ (i := 9) (N := some 35) (v := ?_) (a' := ?_) #[true, true, true, true, true, true, true, true, true, true, false, false, false, false, false, false] rfl rfl (any_of HT_.out (by kernel_rfl)) (fun _ _ _ h => h) (Or.inl ⟨by rfl, ?_⟩) ?_ ?_
                  rotate_left
                  · intro w'
                    go_simp
                    with_reducible rfl
                  rotate_left
                  · simp only [Act.put, List.setIfInBounds_toArray, List.set_cons_zero, List.set_cons_succ, i64_w, i32_w]
                    rfl
                  refine pure_ (i := 10) (N := some 36) (v := ?_) (a' := ?_) #[true, true, true, true, true, true, true, true, true, true, true, false, false, false, false, false] rfl rfl (any_of HT_.out (by kernel_rfl)) (fun _ _ _ h => h) (Or.inl ⟨by rfl, ?_⟩) ?_ ?_
                  rotate_left
                  · intro w'
                    go_simp
                    with_reducible rfl
                  rotate_left
                  · simp only [Act.put, List.setIfInBounds_toArray, List.set_cons_zero, List.set_cons_succ, i64_w, i32_w]
                    rfl
                  refine pure_ (i := 11) (N := some 37) (v := ?_) (a' := ?_) #[true, true, true, true, true, true, true, true, true, true, true, true, false, false, false, false] rfl rfl (any_of HT_.out (by kernel_rfl)) (fun _ _ _ h => h) (Or.inl ⟨by rfl, ?_⟩) ?_ ?_
                  rotate_left
                  · intro w'
                    go_simp
                    with_reducible rfl
                  rotate_left
                  · simp only [Act.put, List.setIfInBounds_toArray, List.set_cons_zero, List.set_cons_succ, i64_w, i32_w]
                    rfl
                  refine pure_ (i := 12) (N := some 38) (v := undef) (a' := ?_) #[true, true, true, true, true, true, true, true, true, true, true, true, true, false, false, false] rfl rfl (any_of HT_.out (by kernel_rfl)) (fun _ _ _ h => h) (Or.inr ⟨by rfl, rfl⟩) ?_ ?_
                  rotate_left
                  · simp only [Act.put, List.setIfInBounds_toArray, List.set_cons_zero, List.set_cons_succ, i64_w, i32_w]
                    rfl
                  refine pure_ (i := 13) (N := some 39) (v := undef) (a' := ?_) #[true, true, true, true, true, true, true, true, true, true, true, true, true, true, false, false] rfl rfl (any_of HT_.out (by kernel_rfl)) (fun _ _ _ h => h) (Or.inr ⟨by rfl, rfl⟩) ?_ ?_
                  rotate_left
                  · simp only [Act.put, List.setIfInBounds_toArray, List.set_cons_zero, List.set_cons_succ, i64_w, i32_w]
                    rfl
                  refine pure_ (i := 14) (N := some 40) (v := undef) (a' := ?_) #[true, true, true, true, true, true, true, true, true, true, true, true, true, true, true, false] rfl rfl (any_of HT_.out (by kernel_rfl)) (fun _ _ _ h => h) (Or.inr ⟨by rfl, rfl⟩) ?_ ?_
                  rotate_left
                  · simp only [Act.put, List.setIfInBounds_toArray, List.set_cons_zero, List.set_cons_succ, i64_w, i32_w]
                    rfl
                  refine pure_ (i := 15) (N := some 41) (v := ?_) (a' := ?_) #[true, true, true, true, true, true, true, true, true, true, true, true, true, true, true, true] rfl rfl (any_of HT_.out (by kernel_rfl)) (fun _ _ _ h => h) (Or.inl ⟨by rfl, ?_⟩) ?_ ?_
                  rotate_left
                  · intro w'
                    go_simp
                    with_reducible rfl
                  rotate_left
                  · simp only [Act.put, List.setIfInBounds_toArray, List.set_cons_zero, List.set_cons_succ, i64_w, i32_w]
                    rfl
                  refine done_ (done_of HT_.out (by kernel_rfl)) ?_
                  try go_wp2
                  go_roundg k2
                  case measure => have := HJ2.out; have := HK2.out; omega
                  case rel => exact ⟨(x6_2), (wrap64 (x7_2 + 1)), (by first | rfl | (simp; done) | (simp [*]; done)), H', ⟨by have := HJ2.out; have := HK2.out; omega⟩, ⟨by (with_reducible repeat (first | apply Kd.R_alloc | apply Kd.R_drewN | apply Kd.R_drew)); exact HO_6.out⟩, ⟨by repeat (first | (with_reducible first | exact HB.out | apply below_alloc | apply pw_below_drewN | apply below_drew1 | refine below_set ?_ GE1138.out) | exact HB.out)⟩⟩
              · rw [if_neg c16] at H
                have c16b0 : decide (0 ≤ t1139) = false := decide_eq_false c16
                clear c16
                have H' := Aside0.mk H
                clear H
                try go_wp2_with (first | ((with_reducible refine gate_callee (f := 105) rfl ?_); refine goesL_ (some 25) rfl rfl Try.func105 (by kernel_rfl) rfl #[.int .i64 x7_2, .int .i64 x7_2] rfl (by (try simp only [List.map_toArray, List.map_cons, List.map_nil]); first | done | rfl | (simp only [List.length_drop, List.length_take]; rfl)) ?_; (with_reducible refine (spec_tiOf.calls x7_2 x7_2 t1136 t1137 _ A14.out).mono ?_); rintro e w52 ⟨rfl, hb⟩; refine ⟨_, rfl, ?_⟩; have n0_ := Aside0.mk (Kd.R_below (by (with_reducible repeat (first | apply Kd.R_alloc | apply Kd.R_drewN | apply Kd.R_drew)); exact HO_6.out) hb); have n1_ := Aside0.mk (below_step (by repeat (first | (with_reducible first | exact HB.out | apply below_alloc | apply pw_below_drewN | apply below_drew1) | exact HB.out)) hb); clear HO_6; clear HB; have HO_6 := n0_; have HB := n1_; clear n0_ n1_; (try clear hb); (try clear hb2); (try clear hk); (try clear hi)) | ((with_reducible refine gate_dst (N := 8) rfl ?_); refine box_event ?hg (N := 8) ?hd (cs := #[.int .i64 0, .int .i64 0]) (t := 67) ?hr ?_; (case hd => rfl); (case hg => rfl); (case hr => first | (go_simp; done) | (go_simp; rfl)); intro gb1138 hg w53 hbox hb; have n0_ := Aside0.mk (Kd.R_below (by (with_reducible repeat (first | apply Kd.R_alloc | apply Kd.R_drewN | apply Kd.R_drew)); exact HO_6.out) hb); have n1_ := Aside0.mk (below_step (by repeat (first | (with_reducible first | exact HB.out | apply below_alloc | apply pw_below_drewN | apply below_drew1) | exact HB.out)) hb); have n2_ := Aside0.mk (hbox); have n3_ := Aside0.mk ((by rw [hg]; exact (below_size (by repeat (first | (with_reducible first | exact HB.out | apply below_alloc | apply pw_below_drewN | apply below_drew1) | exact HB.out))) : w.heap.size ≤ gb1138)); have n4_ := Aside0.mk ((by rw [hg]; exact (below_size (by repeat (first | (with_reducible first | exact HB.out | apply below_alloc | apply pw_below_drewN | apply below_drew1) | exact HB.out))) : w.heap.size ≤ gb1138)); clear HO_6; clear HB; have HO_6 := n0_; have HB := n1_; have BK1138 := n2_; have GW1138 := n3_; have GE1138 := n4_; clear n0_ n1_ n2_ n3_ n4_; clear hb hbox hg; have hcz54_0 : w53.cell? ⟨gb1138, 0, none⟩ = some (.int .i64 0) := (blk_cell BK1138.out 0).trans rfl; have hcz54_1 : w53.cell? ⟨gb1138, 1, none⟩ = some (.int .i64 0) := (blk_cell BK1138.out 1).trans rfl; have hfz54_0 := blk_frozen BK1138.out 0; have hfz54_1 := blk_frozen BK1138.out 1))
                have n0_ : Aside0 (Kd.R (Kd.int .i64) 3 ((w53.setCell ⟨gb1138, 0, none⟩ (.int .i64 t1136)).setCell ⟨gb1138, 1, none⟩ (.int .i64 t1137)) w.heap.size (fun _ => True) u6 x6_2) := ⟨by (with_reducible repeat (first | apply Kd.R_alloc | apply Kd.R_drewN | apply Kd.R_drew)); exact Kd.R_mono (Kd.R_far (p := ⟨gb1138, 1, none⟩) (Kd.R_far (p := ⟨gb1138, 0, none⟩) (Kd.R_types HO_6.out BK1138.out (by decide)) (fun _ hk => hk.2) (.int .i64 t1136)) (fun _ hk => hk.2) (.int .i64 t1137)) (fun _ hk => trivial)⟩
                have n1_ : Aside0 (((w53.setCell ⟨gb1138, 0, none⟩ (.int .i64 t1136)).setCell ⟨gb1138, 1, none⟩ (.int .i64 t1137)).heap[gb1138]? = some (.cells #[.int .i64 t1136, .int .i64 t1137] 67 (0, 0))) := ⟨by (with_reducible repeat (first | refine blk_drewN ?_ _ | refine blk_drew ?_ | refine blk_alloc ?_ _)); refine blk_put (cs := #[.int .i64 t1136, .int .i64 0]) ?_ 1 _ rfl; (with_reducible repeat (first | refine blk_drewN ?_ _ | refine blk_drew ?_ | refine blk_alloc ?_ _)); refine blk_put (cs := #[.int .i64 0, .int .i64 0]) ?_ 0 _ rfl; (with_reducible repeat (first | refine blk_drewN ?_ _ | refine blk_drew ?_ | refine blk_alloc ?_ _)); exact BK1138.out⟩
                have n2_ : Aside0 (Below w.heap.size w ((w53.setCell ⟨gb1138, 0, none⟩ (.int .i64 t1136)).setCell ⟨gb1138, 1, none⟩ (.int .i64 t1137))) := ⟨by repeat (first | (with_reducible first | exact HB.out | apply below_alloc | apply pw_below_drewN | apply below_drew1 | refine below_set ?_ GE1138.out) | exact HB.out)⟩
                (try clear HO_6)
                (try clear BK1138)
                (try clear HB)
                generalize ((w53.setCell ⟨gb1138, 0, none⟩ (.int .i64 t1136)).setCell ⟨gb1138, 1, none⟩ (.int .i64 t1137)) = w55 at n0_ n1_ n2_ ⊢
                have HO_6 := n0_
                have BK1138 := n1_
                have HB := n2_
                clear n0_ n1_ n2_
                have n0_ := Aside0.mk (Kd.R_drew HO_6.out)
                have n1_ := Aside0.mk (blk_drew BK1138.out)
                have n2_ := Aside0.mk (below_drew1 HB.out)
                clear HO_6
                clear BK1138
                clear HB
                have HO_6 := n0_
                have BK1138 := n1_
                have HB := n2_
                clear n0_ n1_ n2_
                refine start_ (n := 16) (S := fun w' => w'.cell? ⟨gb1138, 0, none⟩ = some (.int .i64 t1136) ∧ w'.cell? ⟨gb1138, 1, none⟩ = some (.int .i64 t1137)) (ds := []) #[false, false, false, false, false, false, false, false, false, false, false, false, false, false, false, false] (by kernel_rfl) rfl rfl ⟨(blk_cell BK1138.out 0).trans rfl, (blk_cell BK1138.out 1).trans rfl⟩ (fun hHeld => ?_); refine with_tabW spec_PutDoubles.tab8 spec_PutDoubles.bits8 (fun HT_ HW_ => ?_)
                generalize w55.drew = w56 at HO_6 BK1138 HB hHeld ⊢
                refine pure_ (i := 0) (N := some 26) (v := ?_) (a' := ?_) #[true, false, false, false, false, false, false, false, false, false, false, false, false, false, false, false] rfl rfl (any_of HT_.out (by kernel_rfl)) (fun _ _ _ h => h) (Or.inl ⟨by rfl, ?_⟩) ?_ ?_
                rotate_left
                · intro w'
                  go_simp
                  with_reducible rfl
                rotate_left
                · simp only [Act.put, List.setIfInBounds_toArray, List.set_cons_zero, List.set_cons_succ, i64_w, i32_w]
                  rfl
                refine take_ (i := 1) (N := some 27) (v := ?_) (a' := ?_) #[true, true, false, false, false, false, false, false, false, false, false, false, false, false, false, false] rfl rfl (take_ofW HT_.out HW_.out (by kernel_rfl)) (fun _ _ _ h => h) (Or.inl ⟨by rfl, ?_⟩) hHeld ?_ ?_
                rotate_left
                · rintro w' ⟨s0, s1⟩
                  go_simp
                  with_reducible rfl
                rotate_left
                · simp only [Act.put, List.setIfInBounds_toArray, List.set_cons_zero, List.set_cons_succ, i64_w, i32_w]
                  rfl
                refine one_ (i := 2) (N := some 28) #[true, true, true, false, false, false, false, false, false, false, false, false, false, false, false, false] rfl rfl (one_of HT_.out (by kernel_rfl)) (by decide) (fun K hK => ?_)
                refine goes_ Try.func110 (by kernel_rfl) rfl #[.slice A1 l1.length c1, .agg #[.int .i64 t1136, .int .i64 t1137]] (by rfl) rfl rfl (by (try simp only [List.map_toArray, List.map_cons, List.map_nil]); first | done | rfl | (simp only [List.length_drop, List.length_take]; rfl)) ?_
                with_reducible refine (spec_tiPlace.calls k2 _ _ l1 t1136 t1137 t1139 _ ?side1 ?side2 A15.out).mono ?_
                (case side1 => repeat (first | exact (Kd.C_below HR1.out HB.out) | (with_reducible refine Kd.C_alloc ?_ _) | (with_reducible refine Kd.C_drewN ?_ _) | (with_reducible refine Kd.C_drew ?_)))
                (case side2 => exact HC1.out)
                rintro e w57 ⟨rfl, hb⟩
                refine ⟨_, rfl, ?_⟩
                have n0_ := Aside0.mk (Kd.R_below (by (with_reducible repeat (first | apply Kd.R_alloc | apply Kd.R_drewN | apply Kd.R_drew)); exact HO_6.out) hb)
                have n1_ := Aside0.mk (blk_below (g := gb1138) (o := .cells #[.int .i64 t1136, .int .i64 t1137] 67 (0, 0)) (by (with_reducible repeat (first | refine blk_drewN ?_ _ | refine blk_drew ?_ | refine blk_alloc ?_ _)); exact BK1138.out) hb)
                have n2_ := Aside0.mk (below_step (by repeat (first | (with_reducible first | exact HB.out | apply below_alloc | apply pw_below_drewN | apply below_drew1 | refine below_set ?_ GE1138.out) | exact HB.out)) hb)
                clear HO_6
                clear BK1138
                clear HB
                have HO_6 := n0_
                have BK1138 := n1_
                have HB := n2_
                clear n0_ n1_ n2_
                (try clear hb)
                (try clear hb2)
                (try clear hk)
                (try clear hi)
                refine hK.out _ _ ⟨(blk_cell BK1138.out 0).trans rfl, (blk_cell BK1138.out 1).trans rfl⟩ (fun hHeld => ?_)
                clear hK K
                refine norm_ (a' := ?_) ?_ ?_
                rotate_left
                · show Act.put _ (some 28) _ = _
                  simp only [Act.put, List.setIfInBounds_toArray, List.set_cons_zero, List.set_cons_succ, i64_w, i32_w]
                  rfl
                refine pure_ (i := 3) (N := some 29) (v := ?_) (a' := ?_) #[true, true, true, true, false, false, false, false, false, false, false, false, false, false, false, false] rfl rfl (any_of HT_.out (by kernel_rfl)) (fun _ _ _ h => h) (Or.inl ⟨by rfl, ?_⟩) ?_ ?_
                rotate_left
                · intro w'
                  go_simp
                  with_reducible rfl
                rotate_left
                · simp only [Act.put, List.setIfInBounds_toArray, List.set_cons_zero, List.set_cons_succ, i64_w, i32_w]
                  rfl
                refine pure_ (i := 4) (N := some 30) (v := ?_) (a' := ?_) #[true, true, true, true, true, false, false, false, false, false, false, false, false, false, false, false] rfl rfl (any_of HT_.out (by kernel_rfl)) (fun _ _ _ h => h) (Or.inl ⟨by rfl, ?_⟩) ?_ ?_
                rotate_left
                · intro w'
                  go_simp
                  with_reducible rfl
                rotate_left
                · simp only [Act.put, List.setIfInBounds_toArray, List.set_cons_zero, List.set_cons_succ, i64_w, i32_w]
                  rfl
                refine pure_ (i := 5) (N := some 31) (v := undef) (a' := ?_) #[true, true, true, true, true, true, false, false, false, false, false, false, false, false, false, false] rfl rfl (any_of HT_.out (by kernel_rfl)) (fun _ _ _ h => h) (Or.inr ⟨by rfl, rfl⟩) ?_ ?_
                rotate_left
                · simp only [Act.put, List.setIfInBounds_toArray, List.set_cons_zero, List.set_cons_succ, i64_w, i32_w]
                  rfl
                refine pure_ (i := 6) (N := some 32) (v := undef) (a' := ?_) #[true, true, true, true, true, true, true, false, false, false, false, false, false, false, false, false] rfl rfl (any_of HT_.out (by kernel_rfl)) (fun _ _ _ h => h) (Or.inr ⟨by rfl, rfl⟩) ?_ ?_
                rotate_left
                · simp only [Act.put, List.setIfInBounds_toArray, List.set_cons_zero, List.set_cons_succ, i64_w, i32_w]
                  rfl
                refine pure_ (i := 7) (N := some 33) (v := undef) (a' := ?_) #[true, true, true, true, true, true, true, true, false, false, false, false, false, false, false, false] rfl rfl (any_of HT_.out (by kernel_rfl)) (fun _ _ _ h => h) (Or.inr ⟨by rfl, rfl⟩) ?_ ?_
                rotate_left
                · simp only [Act.put, List.setIfInBounds_toArray, List.set_cons_zero, List.set_cons_succ, i64_w, i32_w]
                  rfl
                refine pure_ (i := 8) (N := some 34) (v := undef) (a' := ?_) #[true, true, true, true, true, true, true, true, true, false, false, false, false, false, false, false] rfl rfl (any_of HT_.out (by kernel_rfl)) (fun _ _ _ h => h) (Or.inr ⟨by rfl, rfl⟩) ?_ ?_
                rotate_left
                · simp only [Act.put, List.setIfInBounds_toArray, List.set_cons_zero, List.set_cons_succ, i64_w, i32_w]
                  rfl
                refine pure_ (i := 9) (N := some 35) (v := undef) (a' := ?_) #[true, true, true, true, true, true, true, true, true, true, false, false, false, false, false, false] rfl rfl (any_of HT_.out (by kernel_rfl)) (fun _ _ _ h => h) (Or.inr ⟨by rfl, rfl⟩) ?_ ?_
                rotate_left
                · simp only [Act.put, List.setIfInBounds_toArray, List.set_cons_zero, List.set_cons_succ, i64_w, i32_w]
                  rfl
                refine pure_ (i := 10) (N := some 36) (v := ?_) (a' := ?_) #[true, true, true, true, true, true, true, true, true, true, true, false, false, false, false, false] rfl rfl (any_of HT_.out (by kernel_rfl)) (fun _ _ _ h => h) (Or.inl ⟨by rfl, ?_⟩) ?_ ?_
                rotate_left
                · intro w'
                  go_simp
                  with_reducible rfl
                rotate_left
                · simp only [Act.put, List.setIfInBounds_toArray, List.set_cons_zero, List.set_cons_succ, i64_w, i32_w]
                  rfl
                refine pure_ (i := 11) (N := some 37) (v := ?_) (a' := ?_) #[true, true, true, true, true, true, true, true, true, true, true, true, false, false, false, false] rfl rfl (any_of HT_.out (by kernel_rfl)) (fun _ _ _ h => h) (Or.inl ⟨by rfl, ?_⟩) ?_ ?_
                rotate_left
                · intro w'
                  go_simp
                  with_reducible rfl
                rotate_left
                · simp only [Act.put, List.setIfInBounds_toArray, List.set_cons_zero, List.set_cons_succ, i64_w, i32_w]
                  rfl
                refine pure_ (i := 12) (N := some 38) (v := undef) (a' := ?_) #[true, true, true, true, true, true, true, true, true, true, true, true, true, false, false, false] rfl rfl (any_of HT_.out (by kernel_rfl)) (fun _ _ _ h => h) (Or.inr ⟨by rfl, rfl⟩) ?_ ?_
                rotate_left
                · simp only [Act.put, List.setIfInBounds_toArray, List.set_cons_zero, List.set_cons_succ, i64_w, i32_w]
                  rfl
                refine pure_ (i := 13) (N := some 39) (v := undef) (a' := ?_) #[true, true, true, true, true, true, true, true, true, true, true, true, true, true, false, false] rfl rfl (any_of HT_.out (by kernel_rfl)) (fun _ _ _ h => h) (Or.inr ⟨by rfl, rfl⟩) ?_ ?_
                rotate_left
                · simp only [Act.put, List.setIfInBounds_toArray, List.set_cons_zero, List.set_cons_succ, i64_w, i32_w]
                  rfl
                refine pure_ (i := 14) (N := some 40) (v := undef) (a' := ?_) #[true, true, true, true, true, true, true, true, true, true, true, true, true, true, true, false] rfl rfl (any_of HT_.out (by kernel_rfl)) (fun _ _ _ h => h) (Or.inr ⟨by rfl, rfl⟩) ?_ ?_
                rotate_left
                · simp only [Act.put, List.setIfInBounds_toArray, List.set_cons_zero, List.set_cons_succ, i64_w, i32_w]
                  rfl
                refine pure_ (i := 15) (N := some 41) (v := ?_) (a' := ?_) #[true, true, true, true, true, true, true, true, true, true, true, true, true, true, true, true] rfl rfl (any_of HT_.out (by kernel_rfl)) (fun _ _ _ h => h) (Or.inl ⟨by rfl, ?_⟩) ?_ ?_
                rotate_left
                · intro w'
                  go_simp
                  with_reducible rfl
                rotate_left
                · simp only [Act.put, List.setIfInBounds_toArray, List.set_cons_zero, List.set_cons_succ, i64_w, i32_w]
                  rfl
                refine done_ (done_of HT_.out (by kernel_rfl)) ?_
                try go_wp2
                go_roundg k2
                case measure => have := HJ2.out; have := HK2.out; omega
                case rel => exact ⟨(x6_2), (wrap64 (x7_2 + 1)), (by first | rfl | (simp; done) | (simp [*]; done)), H', ⟨by have := HJ2.out; have := HK2.out; omega⟩, ⟨by (with_reducible repeat (first | apply Kd.R_alloc | apply Kd.R_drewN | apply Kd.R_drew)); exact HO_6.out⟩, ⟨by repeat (first | (with_reducible first | exact HB.out | apply below_alloc | apply pw_below_drewN | apply below_drew1 | refine below_set ?_ GE1138.out) | exact HB.out)⟩⟩
            · rw [if_neg c13] at H
              have c13b0 : decide (x7_2 ≤ 9) = false := decide_eq_false c13
              clear c13
              simp only [Option.some.injEq, Prod.mk.injEq] at H
              obtain ⟨rfl, rfl⟩ := H
              go_wp2
              go_ret2
              exact ⟨_, by first | rfl | (simp [errW_none, errW_some] <;> rfl) | (simp [*, errW_none, errW_some] <;> rfl), by (with_reducible repeat (first | apply Kd.R_alloc | apply Kd.R_drewN | apply Kd.R_drew)); exact HO_6.out, by repeat (first | (with_reducible first | exact HB.out | apply below_alloc | apply pw_below_drewN | apply below_drew1) | exact HB.out)⟩

end

section
/-! ### impl_PutDoubles: function 68: written by hand -/
theorem own_ltI {w : World} {base : Nat} {ok : Nat → Prop} {v : Value} {l : List Int} (h : Kd.R (Kd.int .i64) 3 w base ok v l) : ∀ b, v.ownBlock = some b → b < w.heap.size := by
  intro b hb
  rcases rowI_of_R h with ⟨rfl, _⟩ | ⟨g, cap, rfl, _, _, _, _, hr⟩
  · cases hb
  · have : g = b := by simpa [Value.ownBlock] using hb
    subst this
    exact rowI_lt hr
theorem own_okI {w : World} {base : Nat} {ok : Nat → Prop} {v : Value} {l : List Int} (h : Kd.R (Kd.int .i64) 3 w base ok v l) : Kd.R (Kd.int .i64) 3 w base (fun _ => True) v l := by
  rcases rowI_of_R h with ⟨rfl, rfl⟩ | ⟨g, cap, rfl, hg, _, _, hc, hr⟩
  · exact Kd.R_nil _ _ _ _ _
  · exact R_of_rowI hr hg trivial hc
/-- The numbers of a list put in, each at its first place. -/
def putL (k : Nat) : List Int → List Int → Option (List Int)
  | out, [] => some out
  | out, n :: ds => (slices_Index_int.f k out n).bind fun r => if 0 ≤ r then (if r.toNat < out.length ∧ out.length < 1000000 then putL k (out.take r.toNat ++ n :: out.drop r.toNat) ds else none) else putL k out ds
theorem putL_mono (k : Nat) : ∀ ds out, LeO (putL k out ds) (putL (k + 1) out ds)
  | [], out, r, h => h
  | n :: ds, out, r, h => by
    unfold putL at h ⊢
    obtain ⟨i, h1, h2⟩ := Option.bind_eq_some_iff.1 h
    rw [slices_Index_int.mono _ _ _ _ h1, Option.bind_some]
    by_cases c : 0 ≤ i
    · rw [if_pos c] at h2 ⊢
      by_cases c2 : i.toNat < out.length ∧ out.length < 1000000
      · rw [if_pos c2] at h2 ⊢
        exact putL_mono k ds _ r h2
      · rw [if_neg c2] at h2; cases h2
    · rw [if_neg c] at h2 ⊢
      exact putL_mono k ds _ r h2
def impl_PutDoubles.g (k : Nat) (ch : List Int) (l0 : List S67) : Option (List Int × Bool) := if ch.length < 17592186044416 then ((impl_tilesOf.f k ch).bind fun ts => (impl_less.f k l0 ts).bind fun le => (impl_doubles.f k le).bind fun ds => (putL k ch ds).bind fun r => some (r, true)) else none
theorem impl_PutDoubles.gmono : ∀ a0 a1 k, LeO (impl_PutDoubles.g k a0 a1) (impl_PutDoubles.g (k + 1) a0 a1) := by
  intro a0 a1 k r h
  unfold impl_PutDoubles.g at h ⊢
  by_cases c : a0.length < 17592186044416
  · rw [if_pos c] at h ⊢
    obtain ⟨t, h1, h2⟩ := Option.bind_eq_some_iff.1 h
    rw [impl_tilesOf.mono _ _ _ h1, Option.bind_some]
    obtain ⟨u, h3, h4⟩ := Option.bind_eq_some_iff.1 h2
    rw [impl_less.mono _ _ _ _ h3, Option.bind_some]
    obtain ⟨d, h5, h6⟩ := Option.bind_eq_some_iff.1 h4
    rw [impl_doubles.mono _ _ _ h5, Option.bind_some]
    obtain ⟨p, h7, h8⟩ := Option.bind_eq_some_iff.1 h6
    rw [putL_mono _ _ _ _ h7, Option.bind_some]
    exact h8
  · rw [if_neg c] at h; cases h
def impl_PutDoubles.f (k : Nat) (ch : List Int) (l0 : List S67) : Option (List Int × Bool) := (impl_IsChain.f k ch).bind fun t => if t = true then ((impl_IsHand.f k l0).bind fun u => if u = true then impl_PutDoubles.g k ch l0 else some ([], false)) else some ([], false)
theorem impl_PutDoubles.mono : ∀ a0 a1 k, LeO (impl_PutDoubles.f k a0 a1) (impl_PutDoubles.f (k + 1) a0 a1) := by
  intro a0 a1 k r h
  unfold impl_PutDoubles.f at h ⊢
  obtain ⟨t, h1, h2⟩ := Option.bind_eq_some_iff.1 h
  rw [impl_IsChain.mono _ _ _ h1, Option.bind_some]
  cases t with
  | false => rw [if_neg (by decide)] at h2 ⊢; exact h2
  | true =>
    rw [if_pos rfl] at h2 ⊢
    obtain ⟨u, h3, h4⟩ := Option.bind_eq_some_iff.1 h2
    rw [impl_IsHand.mono _ _ _ h3, Option.bind_some]
    cases u with
    | false => rw [if_neg (by decide)] at h4 ⊢; exact h4
    | true =>
      rw [if_pos rfl] at h4 ⊢
      exact impl_PutDoubles.gmono _ _ _ _ h4
set_option maxHeartbeats 8000000 in
set_option maxRecDepth 100000 in
theorem impl_PutDoubles.calls (k : Nat) (A0 : Option Addr) (c0 : Nat) (l0 : List Int) (A1 : Option Addr) (c1 : Nat) (l1 : List S67) (r1 : List Int) (r2 : Bool) (w : World) (hr0 : Kd.C (Kd.int .i64) w A0 l0.length l0) (hc0 : l0.length ≤ c0) (hr1 : Kd.C k67 w A1 l1.length l1) (hc1 : l1.length ≤ c1) (h : impl_PutDoubles.f k l0 l1 = some (r1, r2)) :
    Calls Try.prog 68 #[.slice A0 l0.length c0, .slice A1 l1.length c1] w fun e w' => ∃ v0_ : Value, e = .returned (.tuple #[v0_, .bool r2]) ∧ Kd.R (Kd.int .i64) 3 w' w.heap.size (fun _ => True) v0_ r1 ∧ Below w.heap.size w w' := by
  unfold impl_PutDoubles.f at h
  obtain ⟨t, h1, h⟩ := Option.bind_eq_some_iff.1 h
  have hA : Calls Try.prog 101 #[.slice A0 l0.length c0] w fun e w' => e = .returned (.bool t) ∧ Below w.heap.size w w' := impl_IsChain.calls k A0 c0 l0 t w hr0 hc0 h1
  have HA := Aside0.mk hA
  cases t with
  | false =>
    rw [if_neg (by decide)] at h
    simp only [Option.some.injEq, Prod.mk.injEq] at h
    obtain ⟨rfl, rfl⟩ := h
    clear hA hr0 hr1 hc0 hc1 h1
    go_enter Try.func68, Try.ntmps68
    go_wp2_with (go_at_call 101; refine HA.out.mono ?_; rintro e w1 ⟨rfl, hb1⟩)
    go_ret2
    exact ⟨_, rfl, Kd.R_nil _ _ _ _ _, hb1⟩
  | true =>
    rw [if_pos rfl] at h
    obtain ⟨u, h2, h⟩ := Option.bind_eq_some_iff.1 h
    have hB : ∀ W, Below w.heap.size w W → Calls Try.prog 82 #[.slice A1 l1.length c1] W fun e w' => e = .returned (.bool u) ∧ Below W.heap.size W w' := fun W hb => impl_IsHand.calls k A1 c1 l1 u W (Kd.C_below hr1 hb) hc1 h2
    have HBB := Aside0.mk hB
    cases u with
    | false =>
      rw [if_neg (by decide)] at h
      simp only [Option.some.injEq, Prod.mk.injEq] at h
      obtain ⟨rfl, rfl⟩ := h
      clear hA hB hr0 hr1 hc0 hc1 h1 h2
      go_enter Try.func68, Try.ntmps68
      go_wp2_with (first | (go_at_call 101; refine HA.out.mono ?_; rintro e w1 ⟨rfl, hb1⟩; have HB1 := Aside0.mk hb1; clear hb1) | (go_at_call 82; refine (HBB.out _ HB1.out).mono ?_; rintro e w2 ⟨rfl, hb2⟩))
      go_ret2
      exact ⟨_, rfl, Kd.R_nil _ _ _ _ _, below_then HB1.out HB1.out.size hb2⟩
    | true =>
      rw [if_pos rfl] at h
      unfold impl_PutDoubles.g at h
      by_cases c : l0.length < 17592186044416
      · rw [if_pos c] at h
        obtain ⟨ts, h4, h⟩ := Option.bind_eq_some_iff.1 h
        obtain ⟨le, h5, h⟩ := Option.bind_eq_some_iff.1 h
        obtain ⟨ds, h6, h⟩ := Option.bind_eq_some_iff.1 h
        obtain ⟨r, h7, h⟩ := Option.bind_eq_some_iff.1 h
        simp only [Option.some.injEq, Prod.mk.injEq] at h
        obtain ⟨rfl, rfl⟩ := h
        have hC : ∀ W, Below w.heap.size w W → Calls Try.prog 124 #[.slice A0 l0.length c0] W fun e w' => ∃ v0_ : Value, e = .returned (v0_) ∧ Kd.R (Kd.int .i64) 3 w' W.heap.size (fun _ => True) v0_ l0 ∧ Below W.heap.size W w' := fun W hb => slices_Clone_int.calls A0 c0 l0 l0 W (Kd.C_below hr0 hb) hc0 (by unfold slices_Clone_int.f; rw [if_pos c])
        have hT : ∀ W, Below w.heap.size w W → Calls Try.prog 103 #[.slice A0 l0.length c0] W fun e w' => ∃ v0_ : Value, e = .returned (v0_) ∧ Kd.R k67 67 w' W.heap.size (fun _ => True) v0_ ts ∧ Below W.heap.size W w' := fun W hb => impl_tilesOf.calls k A0 c0 l0 ts W (Kd.C_below hr0 hb) hc0 h4
        have hL : ∀ (W : World) (v' : Value) (B' : Nat), Below w.heap.size w W → Kd.R k67 67 W B' (fun _ => True) v' ts → Calls Try.prog 93 #[.slice A1 l1.length c1, v'] W fun e w' => ∃ v0_ : Value, e = .returned (v0_) ∧ Kd.R k67 67 w' W.heap.size (fun _ => True) v0_ le ∧ Below W.heap.size W w' := by
          intro W v' B' hb ho'
          obtain ⟨A', cA', rfl, hlA', hCA'⟩ := Kd.R_reads ho'
          exact impl_less.calls k A1 c1 l1 A' cA' _ le W (Kd.C_below hr1 hb) hc1 hCA' hlA' h5
        have hD : ∀ (W : World) (v' : Value) (B' : Nat), Kd.R k67 67 W B' (fun _ => True) v' le → Calls Try.prog 92 #[v'] W fun e w' => ∃ v0_ : Value, e = .returned (v0_) ∧ Kd.R (Kd.int .i64) 3 w' W.heap.size (fun _ => True) v0_ ds ∧ Below W.heap.size W w' := by
          intro W v' B' ho'
          obtain ⟨A', cA', rfl, hlA', hCA'⟩ := Kd.R_reads ho'
          exact impl_doubles.calls k A' cA' le ds W hCA' hlA' h6
        have hI : ∀ (W : World) (v : Value) (B : Nat) (ok : Nat → Prop) (out : List Int) (n i : Int), Kd.R (Kd.int .i64) 3 W B ok v out → slices_Index_int.f k out n = some i → Calls Try.prog 125 #[v, .int .i64 n] W fun e w' => e = .returned (.int .i64 i) ∧ Drawn0 W w' := by
          intro W v B ok out n i ho hi
          obtain ⟨A', cA', rfl, hlA', hCA'⟩ := Kd.R_reads ho
          exact slices_Index_int.calls k A' cA' out n i W hCA' hlA' hi
        have HC := Aside0.mk hC
        have HT := Aside0.mk hT
        have HL := Aside0.mk hL
        have HD := Aside0.mk hD
        have HI := Aside0.mk hI
        have HP := Aside0.mk h7
        clear hA hB hC hT hL hD hI hr0 hr1 hc0 hc1 h1 h2 h4 h5 h6 h7 c
        go_enter Try.func68, Try.ntmps68
        go_wp2_with (first | (go_at_call 101; refine HA.out.mono ?_; rintro e w1 ⟨rfl, hb1⟩; have HB1 := Aside0.mk hb1; clear hb1) | (go_at_call 82; refine (HBB.out _ HB1.out).mono ?_; rintro e w2 ⟨rfl, hb2⟩; have HB2 := Aside0.mk (below_then HB1.out HB1.out.size hb2); clear hb2) | (go_at_call 124; refine (HC.out _ HB2.out).mono ?_; rintro e w3 ⟨v3, rfl, ho3, hb3⟩; have HO3 := Aside0.mk ho3; have HS3 := Aside0.mk hb3.size; have HB3 := Aside0.mk (below_then HB2.out HB2.out.size hb3); clear ho3 hb3) | (go_at_call 103; refine (HT.out _ HB3.out).mono ?_; rintro e w4 ⟨v4, rfl, ho4, hb4⟩; have HS4 := Aside0.mk hb4.size; have HO34 := Aside0.mk (Kd.R_below HO3.out hb4); have HO4 := Aside0.mk ho4; have HB4 := Aside0.mk (below_then HB3.out HB3.out.size hb4); clear ho4 hb4) | (go_at_call 93; refine (HL.out _ _ _ HB4.out HO4.out).mono ?_; rintro e w5 ⟨v5, rfl, ho5, hb5⟩; have HS5 := Aside0.mk hb5.size; have HO35 := Aside0.mk (Kd.R_below HO34.out hb5); have HO5 := Aside0.mk ho5; have HB5 := Aside0.mk (below_then HB4.out HB4.out.size hb5); clear ho5 hb5) | (go_at_call 92; refine (HD.out _ _ _ HO5.out).mono ?_; rintro e w6 ⟨v6, rfl, ho6, hb6⟩; have HO36 := Aside0.mk (Kd.R_below HO35.out hb6); have HO6 := Aside0.mk ho6; have HS6 := Aside0.mk hb6.size; have HB6 := Aside0.mk (below_then HB5.out HB5.out.size hb6); clear ho6 hb6; obtain ⟨A6, c6, rfl, hl6, hC6⟩ := Kd.R_reads HO6.out; have hbig : ds.length ≤ 9223372036854775807 := hC6.2.1; clear hC6))
        have hlo := own_ltI HO3.out
        rcases rowI_of_R HO6.out with ⟨hv, rfl⟩ | ⟨gd, capd, hv, hgd, -, hdc, hcapd, hrd⟩
        · injection hv with e1 e2 e3
          subst e1 e3
          obtain rfl : l0 = r := by have := HP.out; unfold putL at this; exact Option.some.inj this
          go_loopg [6, 26] 0 (fun gg s6 s26 wr => s6 = v3 ∧ s26 = .int .i64 0 ∧ wr = w6)
          case atStart => exact ⟨rfl, rfl, rfl⟩
          case round =>
            obtain ⟨rfl, rfl, rfl⟩ := hrel
            go_wp2
            go_ret2
            exact ⟨_, rfl, Kd.R_lower HO36.out HB2.out.size, HB6.out⟩
        · injection hv with e1 e2 e3
          subst e1 e3
          have HRD := Aside0.mk hrd
          have hgo : Kd.R (Kd.int .i64) 3 w6 w2.heap.size (fun k => k ≠ gd) v3 l0 := by
            rcases rowI_of_R HO36.out with ⟨rfl, rfl⟩ | ⟨g, cap, rfl, hg, -, hlc, hcap, hrow⟩
            · exact Kd.R_nil _ _ _ _ _
            · refine R_of_rowI hrow hg ?_ hcap
              have := hlo g (by simp [Value.ownBlock])
              have h4 := HS4.out
              have h5 := HS5.out
              omega
          have HGO := Aside0.mk hgo
          clear hgo hrd hgd hdc hcapd hlo
          go_loopg [6, 26] ds.length (fun gg s6 s26 wr => ∃ (i : Nat) (out : List Int), s26 = .int .i64 i ∧ i ≤ ds.length ∧ ds.length - i ≤ gg ∧ Aside0 (Kd.R (Kd.int .i64) 3 wr w2.heap.size (fun k => k ≠ gd) s6 out) ∧ Aside0 (putL k out (ds.drop i) = some r) ∧ Aside0 (rowI wr gd c6 ds) ∧ Aside0 (Below w.heap.size w wr) ∧ Aside0 (w2.heap.size ≤ wr.heap.size))
          case atStart => exact ⟨0, l0, rfl, by omega, by omega, HGO, ⟨by rw [List.drop_zero]; exact HP.out⟩, HRD, HB6, ⟨by have h3 := HS3.out; have h4 := HS4.out; have h5 := HS5.out; have h6 := HS6.out; omega⟩⟩
          case round =>
            obtain ⟨i, out, rfl, hi, hg, HOr, HPr, HRr, HBr, HSr⟩ := hrel
            by_cases hlt : i < ds.length
            · have hltz : (i : Int) < (ds.length : Int) := by omega
              obtain ⟨x, hx⟩ : ∃ x, ds[i]? = some x := ⟨_, List.getElem?_eq_getElem hlt⟩
              obtain ⟨hx0, _⟩ := rowI_at HRr.out i x hx
              have hdr : ds.drop i = x :: ds.drop (i + 1) := by
                rw [List.drop_eq_getElem_cons hlt]
                rw [List.getElem?_eq_getElem hlt] at hx
                cases hx; rfl
              have hp := HPr.out
              rw [hdr, putL] at hp
              obtain ⟨q, hq1, hq2⟩ := Option.bind_eq_some_iff.1 hp
              have HQ1 := Aside0.mk hq1
              clear hp hx hdr HPr hq1
              have hownlt := own_ltI HOr.out
              have hownok := fun b hb => HOr.out.1 b hb
              by_cases hq : 0 ≤ q
              · rw [if_pos hq] at hq2
                obtain ⟨m, rfl⟩ := Int.eq_ofNat_of_zero_le hq
                rw [Int.toNat_natCast] at hq2
                by_cases hm : m < out.length ∧ out.length < 1000000
                · rw [if_pos hm] at hq2
                  have HQ2 := Aside0.mk hq2
                  have hins : ∀ (W : World), Drawn0 wr W → Calls Try.prog 126 #[u6, .int .i64 m, .slice (some ⟨W.heap.size, 0, none⟩) 1 1] (W.alloc (.cells #[.int .i64 x] 3)) fun e w' => ∃ v', e = .returned v' ∧ Kd.R (Kd.int .i64) 3 w' w2.heap.size (fun k => k ≠ gd) v' (out.take m ++ x :: out.drop m) ∧ rowI w' gd c6 ds ∧ Below w.heap.size w w' ∧ w2.heap.size ≤ w'.heap.size := by
                    intro W hd
                    have hRW : Kd.R (Kd.int .i64) 3 (W.alloc (.cells #[.int .i64 x] 3)) w2.heap.size (fun k => k ≠ gd) u6 out := Kd.R_below (Kd.R_below HOr.out hd.below) ((Below.refl _ _).alloc (Nat.le_refl _) _)
                    have hsz : wr.heap.size ≤ W.heap.size := hd.below.size
                    have hgl := rowI_lt HRr.out
                    have hsr := HSr.out
                    have hs2 := HB2.out.size
                    have hrW : rowI (W.alloc (.cells #[.int .i64 x] 3)) gd c6 ds := rowI_below (rowI_below HRr.out hd.below) ((Below.refl _ _).alloc (Nat.le_refl _) _)
                    have hbW : Below w.heap.size w (W.alloc (.cells #[.int .i64 x] 3)) := (below_drawn HBr.out (by omega) hd).alloc (by omega) _
                    have hal : (W.alloc (.cells #[.int .i64 x] 3)).heap.size = W.heap.size + 1 := by simp
                    refine (slices_Insert_int.gcalls w2.heap.size (fun k => k ≠ gd) u6 out x m W.heap.size (W.alloc (.cells #[.int .i64 x] 3)) (by omega) (fun b hb => by omega) hRW hm.1 (by omega) ⟨#[.int .i64 x], heap_alloc_new _ _, rfl, rfl⟩ (fun e => by have := hownlt _ e; omega)).mono ?_
                    rintro e w' ⟨v', rfl, hR', hg'⟩
                    refine ⟨v', rfl, hR', ?_, ?_, Nat.le_trans (by omega) hg'.size⟩
                    · obtain ⟨cur, k1, k2⟩ := hrW
                      exact ⟨cur, (hg'.block gd (by omega) (fun e => hownok gd e.symm rfl)).trans k1, k2⟩
                    · exact hbW.trans ⟨hg'.os, hg'.tape, hg'.output, hg'.size, fun b hb => hg'.block b (by omega) (fun e => by
                        rcases rowI_of_R hRW with ⟨rfl, _⟩ | ⟨g, cap, rfl, hgg, _⟩
                        · cases e
                        · simp [Value.ownBlock] at e; omega)⟩
                  have HINS := Aside0.mk hins
                  clear hins hownlt hownok hq2
                  have hqz : decide ((m : Int) ≥ 0) = true := decide_eq_true (by omega)
                  go_wp2_with (first | (go_at_call 125; refine (HI.out _ _ _ _ _ _ _ HOr.out HQ1.out).mono ?_; rintro e w7 ⟨rfl, hd7⟩; have HD7 := Aside0.mk hd7; clear hd7) | (go_at_call 126; refine (HINS.out _ HD7.out).mono ?_; rintro e w8 ⟨v8, rfl, hR8, hr8, hb8, hs8⟩; have HR8 := Aside0.mk hR8; have Hr8 := Aside0.mk hr8; have HB8 := Aside0.mk hb8; have HS8 := Aside0.mk hs8; clear hR8 hr8 hb8 hs8))
                  go_roundg (ds.length - (i + 1))
                  case measure => omega
                  case rel => exact ⟨i + 1, _, by go_num, by omega, Nat.le_refl _, HR8, HQ2, Hr8, HB8, HS8⟩
                · rw [if_neg hm] at hq2; cases hq2
              · rw [if_neg hq] at hq2
                have HQ2 := Aside0.mk hq2
                clear hq2 hownlt hownok
                have hqz : decide (q ≥ 0) = false := decide_eq_false hq
                go_wp2_with (go_at_call 125; refine (HI.out _ _ _ _ _ _ _ HOr.out HQ1.out).mono ?_; rintro e w7 ⟨rfl, hd7⟩; have HD7 := Aside0.mk hd7; clear hd7)
                go_roundg (ds.length - (i + 1))
                case measure => omega
                case rel => exact ⟨i + 1, out, by go_num, by omega, Nat.le_refl _, ⟨Kd.R_below HOr.out HD7.out.below⟩, HQ2, ⟨rowI_drawn HRr.out HD7.out⟩, ⟨below_drawn HBr.out HBr.out.size HD7.out⟩, ⟨Nat.le_trans HSr.out HD7.out.below.size⟩⟩
            · obtain rfl : i = ds.length := by omega
              have hltz : ¬ (ds.length : Int) < (ds.length : Int) := by omega
              obtain rfl : out = r := by have := HPr.out; rw [List.drop_length, putL] at this; exact Option.some.inj this
              go_wp2
              go_ret2
              exact ⟨_, rfl, own_okI (Kd.R_lower HOr.out HB2.out.size), HBr.out⟩
      · rw [if_neg c] at h
        exact absurd h (by simp)

end

end Go.Proofs.Ytdpimdaofikmjaa.P
