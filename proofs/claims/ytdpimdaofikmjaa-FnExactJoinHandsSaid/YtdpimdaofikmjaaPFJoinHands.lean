-- Printed by a program of this session (wip/myprint.py, which drives the kit's print): what one function of the program does, and the proof that its call does so.
import Derived.Test.YtdpimdaofikmjaaP0
import Derived.Test.YtdpimdaofikmjaaPIb
import Derived.Test.YtdpimdaofikmjaaPIg
import Derived.Test.YtdpimdaofikmjaaPIh
import Derived.Test.YtdpimdaofikmjaaPSa
import Derived.Test.YtdpimdaofikmjaaPSb
namespace Go.Proofs.Ytdpimdaofikmjaa.P
open Go.RowKit Go.Proofs.YtdpimdaofikmjaaW.PrintWords Go.Proofs.YtdpimdaofikmjaaW.PrintLast Go.Proofs.YtdpimdaofikmjaaW.PrintMore
attribute [local go_sem] max2_int min2_int max_two min_two max_three min_three max_four min_four   -- for this text's walks alone
set_option linter.unusedVariables false
set_option linter.unusedSimpArgs false

section
/-! ### spec_JoinHands: function 49 -/
def spec_JoinHands.f (k : Nat) (l0 : List (S67)) (l1 : List (S67)) : Option ((List (S67)) × Bool) := (spec_tiHand.f k l0).bind fun t721 => (if t721 = true then ((spec_tiHand.f k l1).bind fun t722 => (if t722 = true then ((some (([] : List (S67)) : List (S67))).bind fun y723 => (if y723.length + l0.length < 8796093022208 then ((some (y723 ++ l0 : List (S67))).bind fun y726 => (if y726.length + l1.length < 8796093022208 then ((spec_tiSort.f k (y726 ++ l1)).bind fun t732 => (some (t732, true))) else (none))) else (none))) else (some (([] : List (S67)), false)))) else (some (([] : List (S67)), false)))
theorem spec_JoinHands.mono : ∀ a0 a1 k, LeO (spec_JoinHands.f k a0 a1) (spec_JoinHands.f (k + 1) a0 a1) := by
  intro a0 a1 k
  unfold spec_JoinHands.f
  repeat' first
      | (with_reducible exact spec_tiHand.mono _ _)
      | (with_reducible exact spec_tiSort.mono _ _)
      | (with_reducible exact LeO.refl _)
      | (with_reducible exact LeO.none _)
      | (with_reducible refine LeO.ite ?_ ?_)
      | (with_reducible refine LeO.bind ?_ (fun _ => ?_))
      | exact spec_tiHand.mono _ _
      | exact spec_tiSort.mono _ _
      | exact LeO.none _
      | refine LeO.ite ?_ ?_
      | refine LeO.bind ?_ (fun _ => ?_)
set_option maxHeartbeats 8000000 in
set_option maxRecDepth 100000 in
theorem spec_JoinHands.calls (k : Nat) (A0 : Option Addr) (c0 : Nat) (l0 : List (S67)) (A1 : Option Addr) (c1 : Nat) (l1 : List (S67)) (r1 : List (S67)) (r2 : Bool) (w : World) (hr0 : Kd.C k67 w A0 l0.length l0) (hc0 : l0.length ≤ c0) (hr1 : Kd.C k67 w A1 l1.length l1) (hc1 : l1.length ≤ c1) (h : spec_JoinHands.f k l0 l1 = some (r1, r2)) :
    Calls Try.prog 49 #[.slice A0 l0.length c0, .slice A1 l1.length c1] w fun e w' => ∃ v0_ : Value, e = .returned (.tuple #[v0_, .bool r2]) ∧ Kd.R k67 67 w' w.heap.size (fun _ => True) v0_ r1 ∧ Below w.heap.size w w' := by
  have HR0 := Aside0.mk hr0
  have HC0 := Aside0.mk hc0
  clear hr0 hc0
  have HR1 := Aside0.mk hr1
  have HC1 := Aside0.mk hc1
  clear hr1 hc1
  have HB := Aside0.mk (Below.refl w.heap.size w)
  have H : ((spec_tiHand.f k l0).bind fun t721 => (if t721 = true then ((spec_tiHand.f k l1).bind fun t722 => (if t722 = true then ((some (([] : List (S67)) : List (S67))).bind fun y723 => (if y723.length + l0.length < 8796093022208 then ((some (y723 ++ l0 : List (S67))).bind fun y726 => (if y726.length + l1.length < 8796093022208 then ((spec_tiSort.f k (y726 ++ l1)).bind fun t732 => (some (t732, true))) else (none))) else (none))) else (some (([] : List (S67)), false)))) else (some (([] : List (S67)), false)))) = some (r1, r2) := h
  clear h
  replace H := Option.bind_eq_some_iff.mp H
  obtain ⟨t721, A30, H⟩ := H
  replace H : (if t721 = true then ((spec_tiHand.f k l1).bind fun t722 => (if t722 = true then ((some (([] : List (S67)) : List (S67))).bind fun y723 => (if y723.length + l0.length < 8796093022208 then ((some (y723 ++ l0 : List (S67))).bind fun y726 => (if y726.length + l1.length < 8796093022208 then ((spec_tiSort.f k (y726 ++ l1)).bind fun t732 => (some (t732, true))) else (none))) else (none))) else (some (([] : List (S67)), false)))) else (some (([] : List (S67)), false))) = some (r1, r2) := H
  have A3 := Aside0.mk A30
  clear A30
  by_cases c4 : t721 = true
  · subst c4
    have H1 : ((spec_tiHand.f k l1).bind fun t722 => (if t722 = true then ((some (([] : List (S67)) : List (S67))).bind fun y723 => (if y723.length + l0.length < 8796093022208 then ((some (y723 ++ l0 : List (S67))).bind fun y726 => (if y726.length + l1.length < 8796093022208 then ((spec_tiSort.f k (y726 ++ l1)).bind fun t732 => (some (t732, true))) else (none))) else (none))) else (some (([] : List (S67)), false)))) = some (r1, r2) := by rw [if_pos rfl] at H; exact H
    clear H
    have H := H1
    clear H1
    replace H := Option.bind_eq_some_iff.mp H
    obtain ⟨t722, A50, H⟩ := H
    replace H : (if t722 = true then ((some (([] : List (S67)) : List (S67))).bind fun y723 => (if y723.length + l0.length < 8796093022208 then ((some (y723 ++ l0 : List (S67))).bind fun y726 => (if y726.length + l1.length < 8796093022208 then ((spec_tiSort.f k (y726 ++ l1)).bind fun t732 => (some (t732, true))) else (none))) else (none))) else (some (([] : List (S67)), false))) = some (r1, r2) := H
    have A5 := Aside0.mk A50
    clear A50
    by_cases c6 : t722 = true
    · subst c6
      have H1 : ((some (([] : List (S67)) : List (S67))).bind fun y723 => (if y723.length + l0.length < 8796093022208 then ((some (y723 ++ l0 : List (S67))).bind fun y726 => (if y726.length + l1.length < 8796093022208 then ((spec_tiSort.f k (y726 ++ l1)).bind fun t732 => (some (t732, true))) else (none))) else (none))) = some (r1, r2) := by rw [if_pos rfl] at H; exact H
      clear H
      have H := H1
      clear H1
      obtain ⟨y723, hy723⟩ : ∃ y_ : List (S67), y_ = (([] : List (S67))) := ⟨_, rfl⟩
      replace H : (if y723.length + l0.length < 8796093022208 then ((some (y723 ++ l0 : List (S67))).bind fun y726 => (if y726.length + l1.length < 8796093022208 then ((spec_tiSort.f k (y726 ++ l1)).bind fun t732 => (some (t732, true))) else (none))) else (none)) = some (r1, r2) := by first | (rw [hy723]; with_reducible exact H) | (have H2_ := (Option.bind_some _ _).symm.trans H; rw [hy723]; with_reducible exact H2_) | (have H2_ := (Option.bind_some _ _).symm.trans H; with_reducible exact H2_) | with_reducible exact H | (rw [hy723]; exact H) | exact H
      have Ny723 := Aside0.mk hy723
      clear hy723
      by_cases c7 : y723.length + l0.length < 8796093022208
      · rw [if_pos c7] at H
        have LMc7 := Aside0.mk c7
        clear c7
        obtain ⟨y726, hy726⟩ : ∃ y_ : List (S67), y_ = (y723 ++ l0) := ⟨_, rfl⟩
        replace H : (if y726.length + l1.length < 8796093022208 then ((spec_tiSort.f k (y726 ++ l1)).bind fun t732 => (some (t732, true))) else (none)) = some (r1, r2) := by first | (rw [hy726]; with_reducible exact H) | (have H2_ := (Option.bind_some _ _).symm.trans H; rw [hy726]; with_reducible exact H2_) | (have H2_ := (Option.bind_some _ _).symm.trans H; with_reducible exact H2_) | with_reducible exact H | (rw [hy726]; exact H) | exact H
        have Ny726 := Aside0.mk hy726
        clear hy726
        by_cases c8 : y726.length + l1.length < 8796093022208
        · rw [if_pos c8] at H
          have LMc8 := Aside0.mk c8
          clear c8
          obtain ⟨y729, hy729⟩ : ∃ y_ : List (S67), y_ = (y726 ++ l1) := ⟨_, rfl⟩
          replace H : ((spec_tiSort.f k y729).bind fun t732 => (some (t732, true))) = some (r1, r2) := by first | (rw [hy729]; with_reducible exact H) | (have H2_ := (Option.bind_some _ _).symm.trans H; rw [hy729]; with_reducible exact H2_) | (have H2_ := (Option.bind_some _ _).symm.trans H; with_reducible exact H2_) | with_reducible exact H | (rw [hy729]; exact H) | exact H
          have Ny729 := Aside0.mk hy729
          clear hy729
          replace H := Option.bind_eq_some_iff.mp H
          obtain ⟨t732, A90, H⟩ := H
          replace H : (some (t732, true)) = some (r1, r2) := H
          have A9 := Aside0.mk A90
          clear A90
          simp only [Option.some.injEq, Prod.mk.injEq] at H
          obtain ⟨rfl, rfl⟩ := H
          go_enter Try.func49, Try.ntmps49
          go_wp2_with (first | ((with_reducible refine gate_callee (f := 69) rfl ?_); refine goesL_ (some 7) rfl rfl Try.func69 (by kernel_rfl) rfl #[.slice A0 l0.length c0] rfl (by (try simp only [List.map_toArray, List.map_cons, List.map_nil]); first | done | rfl | (simp only [List.length_drop, List.length_take]; rfl)) ?_; (with_reducible refine (spec_tiHand.calls k _ _ l0 true _ ?side1 ?side2 A3.out).mono ?_); (case side1 => repeat (first | exact HR0.out | (with_reducible refine Kd.C_alloc ?_ _) | (with_reducible refine Kd.C_drewN ?_ _) | (with_reducible refine Kd.C_drew ?_))); (case side2 => exact HC0.out); rintro e w10 ⟨rfl, hb⟩; refine ⟨_, rfl, ?_⟩; have n0_ := Aside0.mk (below_step (by repeat (first | (with_reducible first | exact HB.out | apply below_alloc | apply pw_below_drewN | apply below_drew1) | exact HB.out)) hb); clear HB; have HB := n0_; clear n0_; (try clear hb); (try clear hb2); (try clear hk); (try clear hi)) | (go_at_call 69; (with_reducible refine (spec_tiHand.calls k _ _ l1 true _ ?side1 ?side2 A5.out).mono ?_); (case side1 => repeat (first | exact (Kd.C_below HR1.out HB.out) | (with_reducible refine Kd.C_alloc ?_ _) | (with_reducible refine Kd.C_drewN ?_ _) | (with_reducible refine Kd.C_drew ?_))); (case side2 => exact HC1.out); rintro e w11 ⟨rfl, hb⟩; have n0_ := Aside0.mk (below_step (by repeat (first | (with_reducible first | exact HB.out | apply below_alloc | apply pw_below_drewN | apply below_drew1) | exact HB.out)) hb); clear HB; have HB := n0_; clear n0_; (try clear hb); (try clear hb2); (try clear hk); (try clear hi)) | ((with_reducible refine gate_dst (N := 14) rfl ?_); refine Kd.R_lit k67 _ 67 ?hg (N := 14) ?hd (xs := ([] : List (S67))) (inner := []) (ok := fun _ => True) (okp := fun _ => True) ?hr ?hp (fun _ hk => hk) trivial (Below.refl _ _) (Nat.le_refl _) (by simp) ?_; (case hd => rfl); (case hg => rfl); (case hr => first | (go_simp; done) | (go_simp; rfl)); (case hp => exact (Reps.none _ _)); intro v724 w12 ho13 hb hg_ hnew_; clear hg_ hnew_; (first | rw [← Ny723.out] at ho13 | (simp only [Int.reduceToNat] at ho13; rw [← Ny723.out] at ho13)); have n0_ := Aside0.mk (Kd.R_lower ho13 (below_size (by repeat (first | (with_reducible first | exact HB.out | apply below_alloc | apply pw_below_drewN | apply below_drew1) | exact HB.out)))); have n1_ := Aside0.mk (below_step (by repeat (first | (with_reducible first | exact HB.out | apply below_alloc | apply pw_below_drewN | apply below_drew1) | exact HB.out)) hb); clear HB; have HO725 := n0_; have HB := n1_; clear n0_ n1_; clear hb ho13) | ((with_reducible refine gate_builtin (b := .append) (xs := #[.tmp 14, .tmp 15]) rfl ?_); at_builtin; refine Kd.R_append_rows k67 (w0 := w) w.heap.size rfl (.tmp 14) (.tmp 15) 26 67 (.agg #[(.int .i64 0), (.int .i64 0)]) 16 rfl Try.underlying26 info67 rfl (by decide) (by omega) v724 y723 l0 _ _ _ (fun _ => True) (fun _ => False) rfl rfl ?aO ?aR (fun _ _ h => h) (fun _ h => h.elim) ?aF ?aB ?aS ?aL ?_; (case aR => repeat (first | exact (Kd.C_below HR0.out HB.out) | (with_reducible refine Kd.C_alloc ?_ _) | (with_reducible refine Kd.C_drewN ?_ _) | (with_reducible refine Kd.C_drew ?_))); (case aB => exact (by repeat (first | (with_reducible first | exact HB.out | apply below_alloc | apply pw_below_drewN | apply below_drew1) | exact HB.out))); (case aF => exact (fun _ _ => trivial)); (case aO => exact (by (with_reducible repeat (first | apply Kd.R_alloc | apply Kd.R_drewN | apply Kd.R_drew)); exact HO725.out)); (case aS => exact (below_size (by repeat (first | (with_reducible first | exact HB.out | apply below_alloc | apply pw_below_drewN | apply below_drew1) | exact HB.out)))); (case aL => have := LMc7.out; omega); intro v727 w14 ho hb hg hat; rw [← Ny726.out] at ho; have n0_ := Aside0.mk (hb); have n1_ := Aside0.mk (ho); clear HB; clear HO725; have HB := n0_; have HO728 := n1_; clear n0_ n1_; clear ho hb hg hat) | ((with_reducible refine gate_builtin (b := .append) (xs := #[.tmp 16, .tmp 17]) rfl ?_); at_builtin; refine Kd.R_append_rows k67 (w0 := w) w.heap.size rfl (.tmp 16) (.tmp 17) 26 67 (.agg #[(.int .i64 0), (.int .i64 0)]) 16 rfl Try.underlying26 info67 rfl (by decide) (by omega) v727 y726 l1 _ _ _ (fun _ => True) (fun _ => False) rfl rfl ?aO ?aR (fun _ _ h => h) (fun _ h => h.elim) ?aF ?aB ?aS ?aL ?_; (case aR => repeat (first | exact (Kd.C_below HR1.out HB.out) | (with_reducible refine Kd.C_alloc ?_ _) | (with_reducible refine Kd.C_drewN ?_ _) | (with_reducible refine Kd.C_drew ?_))); (case aB => exact (by repeat (first | (with_reducible first | exact HB.out | apply below_alloc | apply pw_below_drewN | apply below_drew1) | exact HB.out))); (case aF => exact (fun _ _ => trivial)); (case aO => exact (by (with_reducible repeat (first | apply Kd.R_alloc | apply Kd.R_drewN | apply Kd.R_drew)); exact HO728.out)); (case aS => exact (below_size (by repeat (first | (with_reducible first | exact HB.out | apply below_alloc | apply pw_below_drewN | apply below_drew1) | exact HB.out)))); (case aL => have := LMc8.out; omega); intro v730 w15 ho hb hg hat; rw [← Ny729.out] at ho; have n0_ := Aside0.mk (hb); have n1_ := Aside0.mk (ho); clear HB; clear HO728; have HB := n0_; have HO731 := n1_; clear n0_ n1_; clear ho hb hg hat; obtain ⟨Ao16, co16, eo16⟩ := Kd.R_slice HO731.out; subst eo16) | ((with_reducible refine gate_callee (f := 81) rfl ?_); refine goesL_ (some 19) rfl rfl Try.func81 (by kernel_rfl) rfl #[.slice Ao16 y729.length co16] rfl (by (try simp only [List.map_toArray, List.map_cons, List.map_nil]); first | done | rfl | (simp only [List.length_drop, List.length_take]; rfl)) ?_; (with_reducible refine (spec_tiSort.calls k _ _ y729 t732 _ ?side1 ?side2 A9.out).mono ?_); (case side1 => repeat (first | exact (Kd.R_reads' HO731.out).2.2 | (with_reducible refine Kd.C_alloc ?_ _) | (with_reducible refine Kd.C_drewN ?_ _) | (with_reducible refine Kd.C_drew ?_))); (case side2 => exact (Kd.R_reads' HO731.out).2.1); rintro e w17 ⟨v733, rfl, ho0, hb⟩; refine ⟨_, rfl, ?_⟩; have n0_ := Aside0.mk (Kd.R_elder' (by (with_reducible repeat (first | apply Kd.R_alloc | apply Kd.R_drewN | apply Kd.R_drew)); exact HO731.out) (Kd.R_base ho0) hb); have n1_ := Aside0.mk (Kd.R_lower (Kd.R_new' ho0 (Kd.R_lt (by (with_reducible repeat (first | apply Kd.R_alloc | apply Kd.R_drewN | apply Kd.R_drew)); exact HO731.out))) (below_size (by repeat (first | (with_reducible first | exact HB.out | apply below_alloc | apply pw_below_drewN | apply below_drew1) | exact HB.out)))); have n2_ := Aside0.mk (below_step (by repeat (first | (with_reducible first | exact HB.out | apply below_alloc | apply pw_below_drewN | apply below_drew1) | exact HB.out)) hb); clear HO731; clear HB; have HO731 := n0_; have HO734 := n1_; have HB := n2_; clear n0_ n1_ n2_; (try clear hb); (try clear hb2); (try clear hk); (try clear hi); (try clear ho0)))
          go_ret2
          exact ⟨_, by first | rfl | (simp [errW_none, errW_some] <;> rfl) | (simp [*, errW_none, errW_some] <;> rfl), by (with_reducible repeat (first | apply Kd.R_alloc | apply Kd.R_drewN | apply Kd.R_drew)); exact Kd.R_mono HO734.out (fun _ hk => trivial), by repeat (first | (with_reducible first | exact HB.out | apply below_alloc | apply pw_below_drewN | apply below_drew1) | exact HB.out)⟩
        · rw [if_neg c8] at H
          exact absurd H (by simp)
      · rw [if_neg c7] at H
        exact absurd H (by simp)
    · replace c6 := Bool.eq_false_iff.mpr c6
      subst c6
      have H1 : (some (([] : List (S67)), false)) = some (r1, r2) := by rw [if_neg (show ¬ (false = true) by decide)] at H; exact H
      clear H
      have H := H1
      clear H1
      simp only [Option.some.injEq, Prod.mk.injEq] at H
      obtain ⟨rfl, rfl⟩ := H
      go_enter Try.func49, Try.ntmps49
      go_wp2_with (first | ((with_reducible refine gate_callee (f := 69) rfl ?_); refine goesL_ (some 7) rfl rfl Try.func69 (by kernel_rfl) rfl #[.slice A0 l0.length c0] rfl (by (try simp only [List.map_toArray, List.map_cons, List.map_nil]); first | done | rfl | (simp only [List.length_drop, List.length_take]; rfl)) ?_; (with_reducible refine (spec_tiHand.calls k _ _ l0 true _ ?side1 ?side2 A3.out).mono ?_); (case side1 => repeat (first | exact HR0.out | (with_reducible refine Kd.C_alloc ?_ _) | (with_reducible refine Kd.C_drewN ?_ _) | (with_reducible refine Kd.C_drew ?_))); (case side2 => exact HC0.out); rintro e w18 ⟨rfl, hb⟩; refine ⟨_, rfl, ?_⟩; have n0_ := Aside0.mk (below_step (by repeat (first | (with_reducible first | exact HB.out | apply below_alloc | apply pw_below_drewN | apply below_drew1) | exact HB.out)) hb); clear HB; have HB := n0_; clear n0_; (try clear hb); (try clear hb2); (try clear hk); (try clear hi)) | (go_at_call 69; (with_reducible refine (spec_tiHand.calls k _ _ l1 false _ ?side1 ?side2 A5.out).mono ?_); (case side1 => repeat (first | exact (Kd.C_below HR1.out HB.out) | (with_reducible refine Kd.C_alloc ?_ _) | (with_reducible refine Kd.C_drewN ?_ _) | (with_reducible refine Kd.C_drew ?_))); (case side2 => exact HC1.out); rintro e w19 ⟨rfl, hb⟩; have n0_ := Aside0.mk (below_step (by repeat (first | (with_reducible first | exact HB.out | apply below_alloc | apply pw_below_drewN | apply below_drew1) | exact HB.out)) hb); clear HB; have HB := n0_; clear n0_; (try clear hb); (try clear hb2); (try clear hk); (try clear hi)))
      go_ret2
      exact ⟨_, by first | rfl | (simp [errW_none, errW_some] <;> rfl) | (simp [*, errW_none, errW_some] <;> rfl), by first | exact Kd.R_nil _ _ _ _ _ | exact Kd.N_nil _ _ _ _ _ | exact Kd.V_nil _ _ _ _ _ | exact Kd.Q_nil _ _ _ _ _ | exact Kd.S_nil _ _ _ _ _, by repeat (first | (with_reducible first | exact HB.out | apply below_alloc | apply pw_below_drewN | apply below_drew1) | exact HB.out)⟩
  · replace c4 := Bool.eq_false_iff.mpr c4
    subst c4
    have H1 : (some (([] : List (S67)), false)) = some (r1, r2) := by rw [if_neg (show ¬ (false = true) by decide)] at H; exact H
    clear H
    have H := H1
    clear H1
    simp only [Option.some.injEq, Prod.mk.injEq] at H
    obtain ⟨rfl, rfl⟩ := H
    go_enter Try.func49, Try.ntmps49
    go_wp2_with (first | ((with_reducible refine gate_callee (f := 69) rfl ?_); refine goesL_ (some 7) rfl rfl Try.func69 (by kernel_rfl) rfl #[.slice A0 l0.length c0] rfl (by (try simp only [List.map_toArray, List.map_cons, List.map_nil]); first | done | rfl | (simp only [List.length_drop, List.length_take]; rfl)) ?_; (with_reducible refine (spec_tiHand.calls k _ _ l0 false _ ?side1 ?side2 A3.out).mono ?_); (case side1 => repeat (first | exact HR0.out | (with_reducible refine Kd.C_alloc ?_ _) | (with_reducible refine Kd.C_drewN ?_ _) | (with_reducible refine Kd.C_drew ?_))); (case side2 => exact HC0.out); rintro e w20 ⟨rfl, hb⟩; refine ⟨_, rfl, ?_⟩; have n0_ := Aside0.mk (below_step (by repeat (first | (with_reducible first | exact HB.out | apply below_alloc | apply pw_below_drewN | apply below_drew1) | exact HB.out)) hb); clear HB; have HB := n0_; clear n0_; (try clear hb); (try clear hb2); (try clear hk); (try clear hi)))
    go_ret2
    exact ⟨_, by first | rfl | (simp [errW_none, errW_some] <;> rfl) | (simp [*, errW_none, errW_some] <;> rfl), by first | exact Kd.R_nil _ _ _ _ _ | exact Kd.N_nil _ _ _ _ _ | exact Kd.V_nil _ _ _ _ _ | exact Kd.Q_nil _ _ _ _ _ | exact Kd.S_nil _ _ _ _ _, by repeat (first | (with_reducible first | exact HB.out | apply below_alloc | apply pw_below_drewN | apply below_drew1) | exact HB.out)⟩

end

section
/-! ### impl_JoinHands: function 50: written by hand -/
def impl_JoinHands.f (k : Nat) (l0 : List S67) (l1 : List S67) : Option (List S67 × Bool) := (impl_IsHand.f k l0).bind fun t => if t = true then ((impl_IsHand.f k l1).bind fun u => if u = true then ((slices_Concat_Tile.f k [l0, l1]).bind fun cc => (impl_sorted.f cc).bind fun s => some (compL s, true)) else some ([], false)) else some ([], false)
theorem impl_JoinHands.mono : ∀ a0 a1 k, LeO (impl_JoinHands.f k a0 a1) (impl_JoinHands.f (k + 1) a0 a1) := by
  intro a0 a1 k r h
  unfold impl_JoinHands.f at h ⊢
  obtain ⟨t, h1, h2⟩ := Option.bind_eq_some_iff.1 h
  rw [impl_IsHand.mono _ _ _ h1, Option.bind_some]
  cases t with
  | false => rw [if_neg (by decide)] at h2 ⊢; exact h2
  | true =>
    rw [if_pos rfl] at h2 ⊢
    obtain ⟨u, h3, h4⟩ := Option.bind_eq_some_iff.1 h2
    rw [impl_IsHand.mono _ _ _ h3, Option.bind_some]
    cases u with
    | false => rw [if_neg (by decide)] at h4 ⊢; exact h4
    | true =>
      rw [if_pos rfl] at h4 ⊢
      obtain ⟨c, h5, h6⟩ := Option.bind_eq_some_iff.1 h4
      rw [slices_Concat_Tile.mono _ _ _ h5, Option.bind_some]
      exact h6
theorem C_pairT {W : World} {g : Nat} {A0 : Option Addr} {c0 : Nat} {l0 : List S67} {A1 : Option Addr} {c1 : Nat} {l1 : List S67} (h0 : W.cell? ⟨g, 0, none⟩ = some (.slice A0 l0.length c0)) (h1 : W.cell? ⟨g, 1, none⟩ = some (.slice A1 l1.length c1)) (hr0 : Kd.C k67 W A0 l0.length l0) (hc0 : l0.length ≤ c0) (hr1 : Kd.C k67 W A1 l1.length l1) (hc1 : l1.length ≤ c1) : Kd.C (Kd.slice 67 k67) W (some ⟨g, 0, none⟩) 2 [l0, l1] := by
  refine ⟨rfl, by simp [maxLen], fun _ => ⟨_, rfl, fun j y hj => ?_⟩⟩
  match j, hj with
  | 0, hj =>
    cases hj
    refine ⟨[.slice A0 l0.length c0], rfl, ⟨A0, c0, rfl, hc0, hr0⟩, fun i u hu => ?_⟩
    match i, hu with
    | 0, hu => cases hu; exact h0
  | 1, hj =>
    cases hj
    refine ⟨[.slice A1 l1.length c1], rfl, ⟨A1, c1, rfl, hc1, hr1⟩, fun i u hu => ?_⟩
    match i, hu with
    | 0, hu => cases hu; exact h1
set_option maxHeartbeats 8000000 in
set_option maxRecDepth 100000 in
theorem impl_JoinHands.calls (k : Nat) (A0 : Option Addr) (c0 : Nat) (l0 : List S67) (A1 : Option Addr) (c1 : Nat) (l1 : List S67) (r1 : List S67) (r2 : Bool) (w : World) (hr0 : Kd.C k67 w A0 l0.length l0) (hc0 : l0.length ≤ c0) (hr1 : Kd.C k67 w A1 l1.length l1) (hc1 : l1.length ≤ c1) (h : impl_JoinHands.f k l0 l1 = some (r1, r2)) :
    Calls Try.prog 50 #[.slice A0 l0.length c0, .slice A1 l1.length c1] w fun e w' => ∃ v0_ : Value, e = .returned (.tuple #[v0_, .bool r2]) ∧ Kd.R k67 67 w' w.heap.size (fun _ => True) v0_ r1 ∧ Below w.heap.size w w' := by
  unfold impl_JoinHands.f at h
  obtain ⟨t, h1, h⟩ := Option.bind_eq_some_iff.1 h
  have hA : Calls Try.prog 82 #[.slice A0 l0.length c0] w fun e w' => e = .returned (.bool t) ∧ Below w.heap.size w w' := impl_IsHand.calls k A0 c0 l0 t w hr0 hc0 h1
  have HA := Aside0.mk hA
  cases t with
  | false =>
    rw [if_neg (by decide)] at h
    simp only [Option.some.injEq, Prod.mk.injEq] at h
    obtain ⟨rfl, rfl⟩ := h
    clear hA hr0 hr1 hc0 hc1 h1
    go_enter Try.func50, Try.ntmps50
    go_wp2_with (go_at_call 82; refine HA.out.mono ?_; rintro e w1 ⟨rfl, hb1⟩)
    go_ret2
    exact ⟨_, rfl, Kd.R_nil _ _ _ _ _, hb1⟩
  | true =>
    rw [if_pos rfl] at h
    obtain ⟨u, h2, h⟩ := Option.bind_eq_some_iff.1 h
    have hB : ∀ W, Below w.heap.size w W → Calls Try.prog 82 #[.slice A1 l1.length c1] W fun e w' => e = .returned (.bool u) ∧ Below W.heap.size W w' := fun W hb => impl_IsHand.calls k A1 c1 l1 u W (Kd.C_below hr1 hb) hc1 h2
    have HBB := Aside0.mk hB
    cases u with
    | false =>
      rw [if_neg (by decide)] at h
      simp only [Option.some.injEq, Prod.mk.injEq] at h
      obtain ⟨rfl, rfl⟩ := h
      clear hA hB hr0 hr1 hc0 hc1 h1 h2
      go_enter Try.func50, Try.ntmps50
      go_wp2_with (go_at_call 82; first | (go_loud (with_reducible refine HA.out.mono ?_); rintro e w1 ⟨rfl, hb1⟩; have HB1 := Aside0.mk hb1; clear hb1) | (go_loud (with_reducible refine (HBB.out _ HB1.out).mono ?_); rintro e w2 ⟨rfl, hb2⟩))
      go_ret2
      exact ⟨_, rfl, Kd.R_nil _ _ _ _ _, below_then HB1.out HB1.out.size hb2⟩
    | true =>
      rw [if_pos rfl] at h
      obtain ⟨cc, h3, h⟩ := Option.bind_eq_some_iff.1 h
      obtain ⟨s, h4, h⟩ := Option.bind_eq_some_iff.1 h
      simp only [Option.some.injEq, Prod.mk.injEq] at h
      obtain ⟨rfl, rfl⟩ := h
      have hC : ∀ (W : World) (o : Obj), Below w.heap.size w W → (W.alloc o).cell? ⟨W.heap.size, 0, none⟩ = some (.slice A0 l0.length c0) → (W.alloc o).cell? ⟨W.heap.size, 1, none⟩ = some (.slice A1 l1.length c1) → Calls Try.prog 99 #[.slice (some ⟨W.heap.size, 0, none⟩) 2 2] (W.alloc o) fun e w' => ∃ v0_ : Value, e = .returned (v0_) ∧ Kd.R k67 67 w' (W.alloc o).heap.size (fun _ => True) v0_ cc ∧ Below (W.alloc o).heap.size (W.alloc o) w' := fun W o hb e0 e1 =>
        slices_Concat_Tile.calls k (some ⟨W.heap.size, 0, none⟩) 2 [l0, l1] cc (W.alloc o) (C_pairT e0 e1 (Kd.C_below hr0 (hb.alloc hb.size o)) hc0 (Kd.C_below hr1 (hb.alloc hb.size o)) hc1) (by simp) h3
      have hS : ∀ (W : World) (v : Value) (B : Nat), Kd.R k67 67 W B (fun _ => True) v cc → Calls Try.prog 83 #[v] W fun e w' => ∃ v0_ : Value, e = .returned (v0_) ∧ Kd.R k67 67 w' W.heap.size (fun _ => True) v0_ s ∧ Below W.heap.size W w' := by
        intro W v B ho
        obtain ⟨A, c, rfl, hlc, hCC⟩ := Kd.R_reads ho
        exact impl_sorted.calls A c cc s W hCC hlc h4
      have hP : ∀ (W : World) (v : Value) (B : Nat), B ≤ W.heap.size → Kd.R k67 67 W B (fun _ => True) v s → Calls Try.prog 98 #[v] W fun e w' => ∃ v' : Value, e = .returned (v') ∧ Kd.R k67 67 w' B (fun _ => True) v' (compL s) ∧ Below B W w' := fun W v B hB ho => slices_Compact_Tile.gcalls B (fun _ => True) v s W hB ho
      have HC := Aside0.mk hC
      have HS := Aside0.mk hS
      have HP := Aside0.mk hP
      clear hA hB hC hS hP hr0 hr1 hc0 hc1 h1 h2 h3 h4
      go_enter Try.func50, Try.ntmps50
      go_wp2_with (first | (go_at_call 82; first | (go_loud (with_reducible refine HA.out.mono ?_); rintro e w1 ⟨rfl, hb1⟩; have HB1 := Aside0.mk hb1; clear hb1) | (go_loud (with_reducible refine (HBB.out _ HB1.out).mono ?_); rintro e w2 ⟨rfl, hb2⟩; have HB2 := Aside0.mk (below_then HB1.out HB1.out.size hb2); clear hb2)) | (go_at_call 99; refine (HC.out _ _ HB2.out (by simp only [World.cell?, heap_alloc_new]; rfl) (by simp only [World.cell?, heap_alloc_new]; rfl)).mono ?_; rintro e w3 ⟨v3, rfl, ho3, hb3⟩; have HO3 := Aside0.mk ho3; have HB3 := Aside0.mk (below_then (HB2.out.alloc HB2.out.size _) (Nat.le_trans HB2.out.size (by simp)) hb3); clear ho3 hb3) | (go_at_call 83; refine (HS.out _ _ _ HO3.out).mono ?_; rintro e w4 ⟨v4, rfl, ho4, hb4⟩; have HO4 := Aside0.mk ho4; have HS4 := Aside0.mk hb4.size; have HB4 := Aside0.mk (below_then HB3.out HB3.out.size hb4); clear ho4 hb4) | (go_at_call 98; refine (HP.out _ _ _ HS4.out HO4.out).mono ?_; rintro e w5 ⟨v5, rfl, ho5, hb5⟩))
      go_ret2
      exact ⟨_, rfl, Kd.R_lower ho5 HB3.out.size, HB4.out.trans (hb5.mono HB3.out.size)⟩

end

end Go.Proofs.Ytdpimdaofikmjaa.P
