-- Printed by a program of this session (wip/myprint.py, which drives the kit's print): what one function of the program does, and the proof that its call does so.
import Derived.Test.YtcomlipkmcphfaaP0
import Derived.Test.YtcomlipkmcphfaaPSb
import Derived.Test.YtcomlipkmcphfaaPSk
namespace Go.Proofs.Ytcomlipkmcphfaa.P
open Go.RowKit Go.Proofs.YtcomlipkmcphfaaW.PrintWords Go.Proofs.YtcomlipkmcphfaaW.PrintLast Go.Proofs.YtcomlipkmcphfaaW.PrintMore
attribute [local go_sem] max2_int min2_int max_two min_two max_three min_three max_four min_four   -- for this text's walks alone
set_option linter.unusedVariables false
set_option linter.unusedSimpArgs false

/-! ### spec_whParts: function 31 -/
def spec_whParts.l0 : Nat → List (List (S41)) → List (S41) → Option ((List (List (S41))))
 | 0, _, _ => none
 | k + 1, x3, x4 => if (x4.length : Int) > 0 then (if 0 < (x4.length : Int) then ((spec_whPart.f k x4 ((rd_T41 x4 0).f0)).bind fun t321 => (if x3.length < 5864062014805 then ((spec_tiThose.f k x4 t321 false).bind fun t327 => (spec_whParts.l0 k (x3 ++ [t321]) t327)) else (none))) else (none)) else (some x3)
def spec_whParts.f (k : Nat) (l0 : List (S41)) : Option ((List (List (S41)))) := (spec_tiSort.f k l0).bind fun t317 => (spec_whParts.l0 k ([] : List (List (S41))) t317)
theorem spec_whParts.mono_l : ∀ k, (∀ y0 y1, LeO (spec_whParts.l0 k y0 y1) (spec_whParts.l0 (k + 1) y0 y1))
 | 0 => fun _ _ r h => by simp [spec_whParts.l0] at h
 | k + 1 => by
  have ih0 := spec_whParts.mono_l k
  ·intro y0 y1
   unfold spec_whParts.l0
   repeat' first
   | (with_reducible exact ih0 _ _)
   | (with_reducible exact spec_tiSort.mono _ _)
   | (with_reducible exact spec_tiThose.mono _ _ _ _)
   | (with_reducible exact spec_whPart.mono _ _ _)
   | (with_reducible exact LeO.refl _)
   | (with_reducible exact LeO.none _)
   | (with_reducible refine LeO.ite ?_ ?_)
   | (with_reducible refine LeO.bind ?_ (fun _ => ?_))
   | exact ih0 _ _
   | exact spec_tiSort.mono _ _
   | exact spec_tiThose.mono _ _ _ _
   | exact spec_whPart.mono _ _ _
   | exact LeO.none _
   | refine LeO.ite ?_ ?_
   | refine LeO.bind ?_ (fun _ => ?_)
theorem spec_whParts.mono : ∀ a0 k, LeO (spec_whParts.f k a0) (spec_whParts.f (k + 1) a0) := by
 intro a0 k
 have ih0 := spec_whParts.mono_l k
 unfold spec_whParts.f
 repeat' first
   | (with_reducible exact ih0 _ _)
   | (with_reducible exact spec_tiSort.mono _ _)
   | (with_reducible exact spec_tiThose.mono _ _ _ _)
   | (with_reducible exact spec_whPart.mono _ _ _)
   | (with_reducible exact LeO.refl _)
   | (with_reducible exact LeO.none _)
   | (with_reducible refine LeO.ite ?_ ?_)
   | (with_reducible refine LeO.bind ?_ (fun _ => ?_))
   | exact ih0 _ _
   | exact spec_tiSort.mono _ _
   | exact spec_tiThose.mono _ _ _ _
   | exact spec_whPart.mono _ _ _
   | exact LeO.none _
   | refine LeO.ite ?_ ?_
   | refine LeO.bind ?_ (fun _ => ?_)
set_option maxHeartbeats 8000000 in
set_option maxRecDepth 100000 in
theorem spec_whParts.calls (k : Nat) (A0 : Option Addr) (c0 : Nat) (l0 : List (S41)) (r : List (List (S41))) (w : World) (hr0 : Kd.C k41 w A0 l0.length l0) (hc0 : l0.length ≤ c0) (h : spec_whParts.f k l0 = some r) :
  Calls Try.prog 31 #[.slice A0 l0.length c0] w fun e w' => ∃ v0_ : Value, e = .returned (v0_) ∧ Kd.S (Kd.slice 41 k41) 27 w' w.heap.size (fun _ => True) v0_ r ∧ Below w.heap.size w w' := by
 have HR0 := aM hr0
 have HC0 := aM hc0
 clear hr0 hc0
 have HB := aM (Below.refl w.heap.size w)
 have H : ((spec_tiSort.f k l0).bind fun t317 => (spec_whParts.l0 k ([] : List (List (S41))) t317)) = some r := h
 clear h
 replace H := oB H
 obtain ⟨t317, A20, H⟩ := H
 replace H : (spec_whParts.l0 k ([] : List (List (S41))) t317) = some r := H
 have A2 := aM A20
 clear A20
 have H' := aM H
 clear H
 go_enter Try.func31, Try.ntmps31
 go_wp2_with (first | ((with_reducible refine gate_callee (f := 51) rfl ?_); refine goesL_ (some 7) rfl rfl Try.func51 (by kernel_rfl) rfl #[.slice A0 l0.length c0] rfl (by (try simp only [List.map_toArray, List.map_cons, List.map_nil]); first | done | rfl | (simp only [List.length_drop, List.length_take]; rfl)) ?_; (with_reducible refine (spec_tiSort.calls k _ _ l0 t317 _ ?side1 ?side2 A2.out).mono ?_); (case side1 => repeat (first | exact HR0.out | (with_reducible refine Kd.C_alloc ?_ _) | (with_reducible refine Kd.C_drewN ?_ _) | (with_reducible refine Kd.C_drew ?_))); (case side2 => exact HC0.out); rintro e w3 ⟨v318, rfl, ho0, hb⟩; refine ⟨_, rfl, ?_⟩; have n0_ := aM (Kd.R_lower ho0 (below_size (by repeat (first | (with_reducible first | exact HB.out | apply bA | apply bN | apply bD) | exact HB.out)))); have n1_ := aM (below_step (by repeat (first | (with_reducible first | exact HB.out | apply bA | apply bN | apply bD) | exact HB.out)) hb); clear HB; have HO319 := n0_; have HB := n1_; clear n0_ n1_; (try clear hb); (try clear hb2); (try clear hk); (try clear hi); (try clear ho0)))
 go_loopg [3, 4] k (fun kq v3 v4 w' => ∃ (x3_1 : List (List (S41))) (x4_1 : List (S41)), Aside0 (spec_whParts.l0 kq x3_1 x4_1 = some r) ∧ Aside0 (kq ≤ k) ∧ Aside0 (Kd.S (Kd.slice 41 k41) 27 w' w.heap.size (fun k_ => some k_ ≠ (v4 : Value).ownBlock) v3 x3_1) ∧ Aside0 (Kd.R k41 41 w' w.heap.size (fun _ => True) v4 x4_1) ∧ Aside0 (Below w.heap.size w w'))
 case atStart => exact ⟨(([] : List (List (S41)))), (t317), H', ⟨Nat.le_refl _⟩, ⟨by first | exact Kd.S_nil _ _ _ _ _ | exact Kd.N_nil _ _ _ _ _ | exact Kd.V_nil _ _ _ _ _ | exact Kd.Q_nil _ _ _ _ _ | exact Kd.R_nil _ _ _ _ _⟩, ⟨by (with_reducible repeat (first | apply rA | apply rN | apply rD)); exact HO319.out⟩, ⟨by repeat (first | (with_reducible first | exact HB.out | apply bA | apply bN | apply bD) | exact HB.out)⟩⟩
 case round =>
  clear H'
  try clear p2
  try clear c3
  obtain ⟨x3_1, x4_1, HA, HK1, HO_3, HO_4, HB⟩ := hrel
  cases gk with
  | zero => exact absurd HA.out (by simp [spec_whParts.l0])
  | succ k1 =>
   have H := HA.out
   clear HA
   simp only [spec_whParts.l0] at H
   by_cases c4 : (x4_1.length : Int) > 0
   ·rw [if_pos c4] at H
    have c4b0 : decide (0 < (x4_1.length : Int)) = true := decide_eq_true c4
    have c4b1 : decide (0 < x4_1.length) = true := decide_eq_true (by omega)
    clear c4
    by_cases c5 : 0 < (x4_1.length : Int)
    ·rw [if_pos c5] at H
     have c5b0 : decide (0 < (x4_1.length : Int)) = true := decide_eq_true c5
     have c5b1 : decide (0 < x4_1.length) = true := decide_eq_true (by omega)
     clear c5
     replace H := oB H
     obtain ⟨t321, A60, H⟩ := H
     replace H : (if x3_1.length < 5864062014805 then ((spec_tiThose.f k1 x4_1 t321 false).bind fun t327 => (spec_whParts.l0 k1 (x3_1 ++ [t321]) t327)) else (none)) = some r := H
     have A6 := aM A60
     clear A60
     by_cases c7 : x3_1.length < 5864062014805
     ·rw [if_pos c7] at H
      have LMc7 := aM c7
      clear c7
      obtain ⟨y324, hy324⟩ : ∃ y_ : List (List (S41)), y_ = (x3_1 ++ [t321]) := ⟨_, rfl⟩
      replace H : ((spec_tiThose.f k1 x4_1 t321 false).bind fun t327 => (spec_whParts.l0 k1 y324 t327)) = some r := by first | (rw [hy324]; with_reducible exact H) | (have H2_ := (Option.bind_some _ _).symm.trans H; rw [hy324]; with_reducible exact H2_) | (have H2_ := (Option.bind_some _ _).symm.trans H; with_reducible exact H2_) | with_reducible exact H | (rw [hy324]; exact H) | exact H
      have Ny324 := aM hy324
      clear hy324
      replace H := oB H
      obtain ⟨t327, A80, H⟩ := H
      replace H : (spec_whParts.l0 k1 y324 t327) = some r := H
      have A8 := aM A80
      clear A80
      have H' := aM H
      clear H
      obtain ⟨Ao9, co9, eo9⟩ := Kd.R_slice HO_4.out
      subst eo9
      have p320 : 0 ≤ (0 : Int) := (by omega)
      have q320 : 0 < (x4_1.length : Int) := oD (by first | (with_reducible assumption) | assumption)
      obtain ⟨ad320, e320, hx320_0, hx320_1⟩ := at_T41 (Kd.R_reads' HO_4.out).2.2 0 p320 q320
      cases e320
      have qi320 : (0 < x4_1.length) = True := eq_true (by omega)
      (try rw [show ((0 : Int)).toNat = 0 from rfl] at hx320_0)
      (try rw [show 0 * 2 = 0 from rfl] at hx320_0)
      (try rw [Addr.add_zero'] at hx320_0)
      (try rw [show ((0 : Int)).toNat = 0 from rfl] at hx320_1)
      (try rw [show 0 * 2 = 0 from rfl] at hx320_1)
      (try rw [Addr.add_zero'] at hx320_1)
      replace p320 := eq_true p320
      replace q320 := eq_true q320
      go_wp2_with (first | ((with_reducible refine gate_callee (f := 52) rfl ?_); refine goesL_ (some 16) rfl rfl Try.func52 (by kernel_rfl) rfl #[.slice (some ad320) x4_1.length co9, .int .i64 ((rd_T41 x4_1 0).f0)] rfl (by (try simp only [List.map_toArray, List.map_cons, List.map_nil]); first | done | rfl | (simp only [List.length_drop, List.length_take]; rfl)) ?_; (with_reducible refine (spec_whPart.calls k1 _ _ x4_1 ((rd_T41 x4_1 0).f0) t321 _ ?side1 ?side2 A6.out).mono ?_); (case side1 => repeat (first | exact (Kd.R_reads' HO_4.out).2.2 | (with_reducible refine Kd.C_alloc ?_ _) | (with_reducible refine Kd.C_drewN ?_ _) | (with_reducible refine Kd.C_drew ?_))); (case side2 => exact (Kd.R_reads' HO_4.out).2.1); rintro e w10 ⟨v322, rfl, ho0, hb⟩; refine ⟨_, rfl, ?_⟩; have n0_ := aM (Kd.S_elder' (by (with_reducible repeat (first | apply Kd.S_alloc | apply Kd.S_drewN | apply Kd.S_drew)); exact HO_3.out) (Kd.R_base ho0) hb); have n1_ := aM (Kd.R_elder' (by (with_reducible repeat (first | apply rA | apply rN | apply rD)); exact HO_4.out) (Kd.R_base ho0) hb); have n2_ := aM (Kd.R_lower (Kd.R_new' ho0 (Kd.R_lt (by (with_reducible repeat (first | apply rA | apply rN | apply rD)); exact HO_4.out))) (below_size (by repeat (first | (with_reducible first | exact HB.out | apply bA | apply bN | apply bD) | exact HB.out)))); have n3_ := aM (below_step (by repeat (first | (with_reducible first | exact HB.out | apply bA | apply bN | apply bD) | exact HB.out)) hb); clear HO_3; clear HO_4; clear HB; have HO_3 := n0_; have HO_4 := n1_; have HO323 := n2_; have HB := n3_; clear n0_ n1_ n2_ n3_; (try clear hb); (try clear hb2); (try clear hk); (try clear hi); (try clear ho0); obtain ⟨Ao12, co12, eo12⟩ := Kd.R_slice HO323.out; subst eo12) | ((with_reducible refine gate_builtin (b := .append) (xs := #[.tmp 17, .tmp 19]) rfl ?_); at_builtin; refine Kd.S_append (Kd.slice 41 k41) (w0 := w) w.heap.size rfl (.tmp 17) (.tmp 19) 47 27 (.slice none 0 0) 24 rfl Try.underlying47 info27 rfl (by decide) (by omega) u3 x3_1 t321 [.slice Ao12 t321.length co12] (fun k_ => some k_ ≠ (.slice (some ad320) x4_1.length co9 : Value).ownBlock) (fun k_ => some k_ = (.slice Ao12 t321.length co12 : Value).ownBlock) rfl rfl ?aP (fun k_ hk_ => ((Kd.R_mono (ok' := fun k_ => ((fun k_ => some k_ ≠ (.slice (some ad320) x4_1.length co9 : Value).ownBlock)) k_ ∧ some k_ ≠ (u3 : Value).ownBlock) (Kd.R_apart' (HO323.out) (Kd.S_typed HO_3.out) (by decide)) (fun k_ hk => ⟨hk.1.2, hk.2⟩))).1 k_ hk_.symm) ?aF ?aO ?aB ?aS ?aL ?_; (case aP => exact Kd.M_row (Kd.R_mono (Kd.R_tight rfl (Kd.R_mono (ok' := fun k_ => ((fun k_ => some k_ ≠ (.slice (some ad320) x4_1.length co9 : Value).ownBlock)) k_ ∧ some k_ ≠ (u3 : Value).ownBlock) (Kd.R_apart' (HO323.out) (Kd.S_typed HO_3.out) (by decide)) (fun k_ hk => ⟨hk.1.2, hk.2⟩))) (fun _ h_ => h_))); (case aB => exact (by repeat (first | (with_reducible first | exact HB.out | apply bA | apply bN | apply bD) | exact HB.out))); (case aF => exact (fun k_ hk => Kd.fresh' (Kd.R_lt (by (with_reducible repeat (first | apply rA | apply rN | apply rD)); exact HO_4.out)) k_ hk)); (case aO => exact (by (with_reducible repeat (first | apply Kd.S_alloc | apply Kd.S_drewN | apply Kd.S_drew)); exact Kd.S_mono HO_3.out (fun k_ hk => ⟨hk.1, fun e_ => hk.2 e_⟩))); (case aS => exact (below_size (by repeat (first | (with_reducible first | exact HB.out | apply bA | apply bN | apply bD) | exact HB.out)))); (case aL => have := LMc7.out; omega); intro v325 w11 ho hb hg hat; rw [← Ny324.out] at ho; have n0_ := aM (Kd.R_over' (by (with_reducible repeat (first | apply rA | apply rN | apply rD)); exact HO_4.out) (Kd.S_typed (by (with_reducible repeat (first | apply Kd.S_alloc | apply Kd.S_drewN | apply Kd.S_drew)); exact HO_3.out)) (by decide) hg); have n9_ := aM (Kd.R_over' (by (with_reducible repeat (first | apply rA | apply rN | apply rD)); exact HO323.out) (Kd.S_typed (by (with_reducible repeat (first | apply Kd.S_alloc | apply Kd.S_drewN | apply Kd.S_drew)); exact HO_3.out)) (by decide) hg); have n1_ := aM (hb); have n2_ := aM (ho); clear HO_4; clear HB; clear HO_3; clear HO323; have HO323 := n9_; have HO_4 := n0_; have HB := n1_; have HO326 := n2_; clear n0_ n1_ n2_; clear ho hb hg hat) | ((with_reducible refine gate_callee (f := 53) rfl ?_); refine goesL_ (some 23) rfl rfl Try.func53 (by kernel_rfl) rfl #[.slice (some ad320) x4_1.length co9, .slice Ao12 t321.length co12, .bool false] rfl (by (try simp only [List.map_toArray, List.map_cons, List.map_nil]); first | done | rfl | (simp only [List.length_drop, List.length_take]; rfl)) ?_; (with_reducible refine (spec_tiThose.calls k1 _ _ x4_1 _ _ t321 false t327 _ ?side1 ?side2 ?side3 ?side4 A8.out).mono ?_); (case side1 => repeat (first | exact (Kd.R_reads' HO_4.out).2.2 | (with_reducible refine Kd.C_alloc ?_ _) | (with_reducible refine Kd.C_drewN ?_ _) | (with_reducible refine Kd.C_drew ?_))); (case side2 => exact (Kd.R_reads' HO_4.out).2.1); (case side3 => repeat (first | exact (Kd.R_reads' HO323.out).2.2 | (with_reducible refine Kd.C_alloc ?_ _) | (with_reducible refine Kd.C_drewN ?_ _) | (with_reducible refine Kd.C_drew ?_))); (case side4 => exact (Kd.R_reads' HO323.out).2.1); rintro e w13 ⟨v328, rfl, ho0, hb⟩; refine ⟨_, rfl, ?_⟩; have n0_ := aM (Kd.R_elder' (by (with_reducible repeat (first | apply rA | apply rN | apply rD)); exact HO_4.out) (Kd.R_base ho0) hb); have n1_ := aM (Kd.S_elder' (by (with_reducible repeat (first | apply Kd.S_alloc | apply Kd.S_drewN | apply Kd.S_drew)); exact HO326.out) (Kd.R_base ho0) hb); have n2_ := aM (Kd.R_lower (Kd.R_new' ho0 (Kd.R_lt (by (with_reducible repeat (first | apply rA | apply rN | apply rD)); exact HO_4.out))) (below_size (by repeat (first | (with_reducible first | exact HB.out | apply bA | apply bN | apply bD) | exact HB.out)))); have n3_ := aM (below_step (by repeat (first | (with_reducible first | exact HB.out | apply bA | apply bN | apply bD) | exact HB.out)) hb); clear HO_4; clear HO326; clear HB; have HO_4 := n0_; have HO326 := n1_; have HO329 := n2_; have HB := n3_; clear n0_ n1_ n2_ n3_; (try clear hb); (try clear hb2); (try clear hk); (try clear hi); (try clear ho0)))
      go_roundg k1
      case measure => have := HK1.out; omega
      case rel => exact ⟨(y324), (t327), H', ⟨by have := HK1.out; omega⟩, ⟨by (with_reducible repeat (first | apply Kd.S_alloc | apply Kd.S_drewN | apply Kd.S_drew)); exact Kd.S_mono HO326.out (fun _ hk => hk.2)⟩, ⟨by (with_reducible repeat (first | apply rA | apply rN | apply rD)); exact Kd.R_mono HO329.out (fun _ hk => trivial)⟩, ⟨by repeat (first | (with_reducible first | exact HB.out | apply bA | apply bN | apply bD) | exact HB.out)⟩⟩
     ·rw [if_neg c7] at H
      exact absurd H (by simp)
    ·rw [if_neg c5] at H
     exact absurd H (by simp)
   ·rw [if_neg c4] at H
    have c4b0 : decide (0 < (x4_1.length : Int)) = false := decide_eq_false c4
    have c4b1 : decide (0 < x4_1.length) = false := decide_eq_false (by omega)
    clear c4
    obtain rfl := Option.some.inj H
    obtain ⟨Ao14, co14, eo14⟩ := Kd.R_slice HO_4.out
    subst eo14
    go_wp2
    go_ret
    exact ⟨_, by first | rfl | (simp [errW_none, errW_some] <;> rfl) | (simp [*, errW_none, errW_some] <;> rfl), by (with_reducible repeat (first | apply Kd.S_alloc | apply Kd.S_drewN | apply Kd.S_drew)); exact Kd.S_mono HO_3.out (fun _ hk => trivial), by repeat (first | (with_reducible first | exact HB.out | apply bA | apply bN | apply bD) | exact HB.out)⟩

end Go.Proofs.Ytcomlipkmcphfaa.P
