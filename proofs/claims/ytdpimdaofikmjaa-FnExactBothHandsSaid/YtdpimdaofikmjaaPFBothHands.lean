-- Printed by a program of this session (wip/myprint.py, which drives the kit's print): what one function of the program does, and the proof that its call does so.
import Derived.Test.YtdpimdaofikmjaaP0
import Derived.Test.YtdpimdaofikmjaaPIb
import Derived.Test.YtdpimdaofikmjaaPIg
import Derived.Test.YtdpimdaofikmjaaPSa
import Derived.Test.YtdpimdaofikmjaaPSb
import Derived.Test.YtdpimdaofikmjaaPimplBothHands1
namespace Go.Proofs.Ytdpimdaofikmjaa.P
open Go.RowKit Go.Proofs.YtdpimdaofikmjaaW.PrintWords Go.Proofs.YtdpimdaofikmjaaW.PrintLast Go.Proofs.YtdpimdaofikmjaaW.PrintMore
attribute [local go_sem] max2_int min2_int max_two min_two max_three min_three max_four min_four   -- for this text's walks alone
set_option linter.unusedVariables false
set_option linter.unusedSimpArgs false

section
/-! ### spec_BothHands: function 36 -/
def spec_BothHands.f (k : Nat) (l0 : List (S67)) (l1 : List (S67)) : Option ((List (S67)) × Bool) := (spec_tiHand.f k l0).bind fun t447 => (if t447 = true then ((spec_tiHand.f k l1).bind fun t448 => (if t448 = true then ((spec_tiThose.f k l0 l1 true).bind fun t449 => (some (t449, true))) else (some (([] : List (S67)), false)))) else (some (([] : List (S67)), false)))
theorem spec_BothHands.mono : ∀ a0 a1 k, LeO (spec_BothHands.f k a0 a1) (spec_BothHands.f (k + 1) a0 a1) := by
  intro a0 a1 k
  unfold spec_BothHands.f
  repeat' first
      | (with_reducible exact spec_tiHand.mono _ _)
      | (with_reducible exact spec_tiThose.mono _ _ _ _)
      | (with_reducible exact LeO.refl _)
      | (with_reducible exact LeO.none _)
      | (with_reducible refine LeO.ite ?_ ?_)
      | (with_reducible refine LeO.bind ?_ (fun _ => ?_))
      | exact spec_tiHand.mono _ _
      | exact spec_tiThose.mono _ _ _ _
      | exact LeO.none _
      | refine LeO.ite ?_ ?_
      | refine LeO.bind ?_ (fun _ => ?_)
set_option maxHeartbeats 8000000 in
set_option maxRecDepth 100000 in
theorem spec_BothHands.calls (k : Nat) (A0 : Option Addr) (c0 : Nat) (l0 : List (S67)) (A1 : Option Addr) (c1 : Nat) (l1 : List (S67)) (r1 : List (S67)) (r2 : Bool) (w : World) (hr0 : Kd.C k67 w A0 l0.length l0) (hc0 : l0.length ≤ c0) (hr1 : Kd.C k67 w A1 l1.length l1) (hc1 : l1.length ≤ c1) (h : spec_BothHands.f k l0 l1 = some (r1, r2)) :
    Calls Try.prog 36 #[.slice A0 l0.length c0, .slice A1 l1.length c1] w fun e w' => ∃ v0_ : Value, e = .returned (.tuple #[v0_, .bool r2]) ∧ Kd.R k67 67 w' w.heap.size (fun _ => True) v0_ r1 ∧ Below w.heap.size w w' := by
  have HR0 := Aside0.mk hr0
  have HC0 := Aside0.mk hc0
  clear hr0 hc0
  have HR1 := Aside0.mk hr1
  have HC1 := Aside0.mk hc1
  clear hr1 hc1
  have HB := Aside0.mk (Below.refl w.heap.size w)
  have H : ((spec_tiHand.f k l0).bind fun t447 => (if t447 = true then ((spec_tiHand.f k l1).bind fun t448 => (if t448 = true then ((spec_tiThose.f k l0 l1 true).bind fun t449 => (some (t449, true))) else (some (([] : List (S67)), false)))) else (some (([] : List (S67)), false)))) = some (r1, r2) := h
  clear h
  replace H := Option.bind_eq_some_iff.mp H
  obtain ⟨t447, A30, H⟩ := H
  replace H : (if t447 = true then ((spec_tiHand.f k l1).bind fun t448 => (if t448 = true then ((spec_tiThose.f k l0 l1 true).bind fun t449 => (some (t449, true))) else (some (([] : List (S67)), false)))) else (some (([] : List (S67)), false))) = some (r1, r2) := H
  have A3 := Aside0.mk A30
  clear A30
  by_cases c4 : t447 = true
  · subst c4
    have H1 : ((spec_tiHand.f k l1).bind fun t448 => (if t448 = true then ((spec_tiThose.f k l0 l1 true).bind fun t449 => (some (t449, true))) else (some (([] : List (S67)), false)))) = some (r1, r2) := by rw [if_pos rfl] at H; exact H
    clear H
    have H := H1
    clear H1
    replace H := Option.bind_eq_some_iff.mp H
    obtain ⟨t448, A50, H⟩ := H
    replace H : (if t448 = true then ((spec_tiThose.f k l0 l1 true).bind fun t449 => (some (t449, true))) else (some (([] : List (S67)), false))) = some (r1, r2) := H
    have A5 := Aside0.mk A50
    clear A50
    by_cases c6 : t448 = true
    · subst c6
      have H1 : ((spec_tiThose.f k l0 l1 true).bind fun t449 => (some (t449, true))) = some (r1, r2) := by rw [if_pos rfl] at H; exact H
      clear H
      have H := H1
      clear H1
      replace H := Option.bind_eq_some_iff.mp H
      obtain ⟨t449, A70, H⟩ := H
      replace H : (some (t449, true)) = some (r1, r2) := H
      have A7 := Aside0.mk A70
      clear A70
      simp only [Option.some.injEq, Prod.mk.injEq] at H
      obtain ⟨rfl, rfl⟩ := H
      go_enter Try.func36, Try.ntmps36
      go_wp2_with (first | ((with_reducible refine gate_callee (f := 69) rfl ?_); refine goesL_ (some 7) rfl rfl Try.func69 (by kernel_rfl) rfl #[.slice A0 l0.length c0] rfl (by (try simp only [List.map_toArray, List.map_cons, List.map_nil]); first | done | rfl | (simp only [List.length_drop, List.length_take]; rfl)) ?_; (with_reducible refine (spec_tiHand.calls k _ _ l0 true _ ?side1 ?side2 A3.out).mono ?_); (case side1 => repeat (first | exact HR0.out | (with_reducible refine Kd.C_alloc ?_ _) | (with_reducible refine Kd.C_drewN ?_ _) | (with_reducible refine Kd.C_drew ?_))); (case side2 => exact HC0.out); rintro e w8 ⟨rfl, hb⟩; refine ⟨_, rfl, ?_⟩; have n0_ := Aside0.mk (below_step (by repeat (first | (with_reducible first | exact HB.out | apply below_alloc | apply pw_below_drewN | apply below_drew1) | exact HB.out)) hb); clear HB; have HB := n0_; clear n0_; (try clear hb); (try clear hb2); (try clear hk); (try clear hi)) | (go_at_call 69; (with_reducible refine (spec_tiHand.calls k _ _ l1 true _ ?side1 ?side2 A5.out).mono ?_); (case side1 => repeat (first | exact (Kd.C_below HR1.out HB.out) | (with_reducible refine Kd.C_alloc ?_ _) | (with_reducible refine Kd.C_drewN ?_ _) | (with_reducible refine Kd.C_drew ?_))); (case side2 => exact HC1.out); rintro e w9 ⟨rfl, hb⟩; have n0_ := Aside0.mk (below_step (by repeat (first | (with_reducible first | exact HB.out | apply below_alloc | apply pw_below_drewN | apply below_drew1) | exact HB.out)) hb); clear HB; have HB := n0_; clear n0_; (try clear hb); (try clear hb2); (try clear hk); (try clear hi)) | ((with_reducible refine gate_callee (f := 84) rfl ?_); refine goesL_ (some 16) rfl rfl Try.func84 (by kernel_rfl) rfl #[.slice A0 l0.length c0, .slice A1 l1.length c1, .bool true] rfl (by (try simp only [List.map_toArray, List.map_cons, List.map_nil]); first | done | rfl | (simp only [List.length_drop, List.length_take]; rfl)) ?_; (with_reducible refine (spec_tiThose.calls k _ _ l0 _ _ l1 true t449 _ ?side1 ?side2 ?side3 ?side4 A7.out).mono ?_); (case side1 => repeat (first | exact (Kd.C_below HR0.out HB.out) | (with_reducible refine Kd.C_alloc ?_ _) | (with_reducible refine Kd.C_drewN ?_ _) | (with_reducible refine Kd.C_drew ?_))); (case side2 => exact HC0.out); (case side3 => repeat (first | exact (Kd.C_below HR1.out HB.out) | (with_reducible refine Kd.C_alloc ?_ _) | (with_reducible refine Kd.C_drewN ?_ _) | (with_reducible refine Kd.C_drew ?_))); (case side4 => exact HC1.out); rintro e w10 ⟨v450, rfl, ho0, hb⟩; refine ⟨_, rfl, ?_⟩; have n0_ := Aside0.mk (Kd.R_lower ho0 (below_size (by repeat (first | (with_reducible first | exact HB.out | apply below_alloc | apply pw_below_drewN | apply below_drew1) | exact HB.out)))); have n1_ := Aside0.mk (below_step (by repeat (first | (with_reducible first | exact HB.out | apply below_alloc | apply pw_below_drewN | apply below_drew1) | exact HB.out)) hb); clear HB; have HO451 := n0_; have HB := n1_; clear n0_ n1_; (try clear hb); (try clear hb2); (try clear hk); (try clear hi); (try clear ho0)))
      go_ret2
      exact ⟨_, by first | rfl | (simp [errW_none, errW_some] <;> rfl) | (simp [*, errW_none, errW_some] <;> rfl), by (with_reducible repeat (first | apply Kd.R_alloc | apply Kd.R_drewN | apply Kd.R_drew)); exact HO451.out, by repeat (first | (with_reducible first | exact HB.out | apply below_alloc | apply pw_below_drewN | apply below_drew1) | exact HB.out)⟩
    · replace c6 := Bool.eq_false_iff.mpr c6
      subst c6
      have H1 : (some (([] : List (S67)), false)) = some (r1, r2) := by rw [if_neg (show ¬ (false = true) by decide)] at H; exact H
      clear H
      have H := H1
      clear H1
      simp only [Option.some.injEq, Prod.mk.injEq] at H
      obtain ⟨rfl, rfl⟩ := H
      go_enter Try.func36, Try.ntmps36
      go_wp2_with (first | ((with_reducible refine gate_callee (f := 69) rfl ?_); refine goesL_ (some 7) rfl rfl Try.func69 (by kernel_rfl) rfl #[.slice A0 l0.length c0] rfl (by (try simp only [List.map_toArray, List.map_cons, List.map_nil]); first | done | rfl | (simp only [List.length_drop, List.length_take]; rfl)) ?_; (with_reducible refine (spec_tiHand.calls k _ _ l0 true _ ?side1 ?side2 A3.out).mono ?_); (case side1 => repeat (first | exact HR0.out | (with_reducible refine Kd.C_alloc ?_ _) | (with_reducible refine Kd.C_drewN ?_ _) | (with_reducible refine Kd.C_drew ?_))); (case side2 => exact HC0.out); rintro e w11 ⟨rfl, hb⟩; refine ⟨_, rfl, ?_⟩; have n0_ := Aside0.mk (below_step (by repeat (first | (with_reducible first | exact HB.out | apply below_alloc | apply pw_below_drewN | apply below_drew1) | exact HB.out)) hb); clear HB; have HB := n0_; clear n0_; (try clear hb); (try clear hb2); (try clear hk); (try clear hi)) | (go_at_call 69; (with_reducible refine (spec_tiHand.calls k _ _ l1 false _ ?side1 ?side2 A5.out).mono ?_); (case side1 => repeat (first | exact (Kd.C_below HR1.out HB.out) | (with_reducible refine Kd.C_alloc ?_ _) | (with_reducible refine Kd.C_drewN ?_ _) | (with_reducible refine Kd.C_drew ?_))); (case side2 => exact HC1.out); rintro e w12 ⟨rfl, hb⟩; have n0_ := Aside0.mk (below_step (by repeat (first | (with_reducible first | exact HB.out | apply below_alloc | apply pw_below_drewN | apply below_drew1) | exact HB.out)) hb); clear HB; have HB := n0_; clear n0_; (try clear hb); (try clear hb2); (try clear hk); (try clear hi)))
      go_ret2
      exact ⟨_, by first | rfl | (simp [errW_none, errW_some] <;> rfl) | (simp [*, errW_none, errW_some] <;> rfl), by first | exact Kd.R_nil _ _ _ _ _ | exact Kd.N_nil _ _ _ _ _ | exact Kd.V_nil _ _ _ _ _ | exact Kd.Q_nil _ _ _ _ _ | exact Kd.S_nil _ _ _ _ _, by repeat (first | (with_reducible first | exact HB.out | apply below_alloc | apply pw_below_drewN | apply below_drew1) | exact HB.out)⟩
  · replace c4 := Bool.eq_false_iff.mpr c4
    subst c4
    have H1 : (some (([] : List (S67)), false)) = some (r1, r2) := by rw [if_neg (show ¬ (false = true) by decide)] at H; exact H
    clear H
    have H := H1
    clear H1
    simp only [Option.some.injEq, Prod.mk.injEq] at H
    obtain ⟨rfl, rfl⟩ := H
    go_enter Try.func36, Try.ntmps36
    go_wp2_with (first | ((with_reducible refine gate_callee (f := 69) rfl ?_); refine goesL_ (some 7) rfl rfl Try.func69 (by kernel_rfl) rfl #[.slice A0 l0.length c0] rfl (by (try simp only [List.map_toArray, List.map_cons, List.map_nil]); first | done | rfl | (simp only [List.length_drop, List.length_take]; rfl)) ?_; (with_reducible refine (spec_tiHand.calls k _ _ l0 false _ ?side1 ?side2 A3.out).mono ?_); (case side1 => repeat (first | exact HR0.out | (with_reducible refine Kd.C_alloc ?_ _) | (with_reducible refine Kd.C_drewN ?_ _) | (with_reducible refine Kd.C_drew ?_))); (case side2 => exact HC0.out); rintro e w13 ⟨rfl, hb⟩; refine ⟨_, rfl, ?_⟩; have n0_ := Aside0.mk (below_step (by repeat (first | (with_reducible first | exact HB.out | apply below_alloc | apply pw_below_drewN | apply below_drew1) | exact HB.out)) hb); clear HB; have HB := n0_; clear n0_; (try clear hb); (try clear hb2); (try clear hk); (try clear hi)))
    go_ret2
    exact ⟨_, by first | rfl | (simp [errW_none, errW_some] <;> rfl) | (simp [*, errW_none, errW_some] <;> rfl), by first | exact Kd.R_nil _ _ _ _ _ | exact Kd.N_nil _ _ _ _ _ | exact Kd.V_nil _ _ _ _ _ | exact Kd.Q_nil _ _ _ _ _ | exact Kd.S_nil _ _ _ _ _, by repeat (first | (with_reducible first | exact HB.out | apply below_alloc | apply pw_below_drewN | apply below_drew1) | exact HB.out)⟩

end

section
/-! ### impl_BothHands: function 37: written by hand -/
def impl_BothHands.g (k : Nat) (l0 : List S67) (l1 : List S67) : Option (List S67 × Bool) := if l0.length < 8796093022208 ∧ (∀ x ∈ l0, inT x) ∧ (∀ x ∈ l0, slices_Contains_Tile.f k l1 x.f0 x.f1 = some (decide (x ∈ l1))) then some ((l0.mergeSort leT).filter fun x => decide (x ∈ l1), true) else none
theorem impl_BothHands.gmono : ∀ a0 a1 k, LeO (impl_BothHands.g k a0 a1) (impl_BothHands.g (k + 1) a0 a1) := by
  intro a0 a1 k r h
  unfold impl_BothHands.g at h ⊢
  by_cases c : a0.length < 8796093022208 ∧ (∀ x ∈ a0, inT x) ∧ (∀ x ∈ a0, slices_Contains_Tile.f k a1 x.f0 x.f1 = some (decide (x ∈ a1)))
  · rw [if_pos c] at h
    rw [if_pos ⟨c.1, c.2.1, fun x hx => slices_Contains_Tile.mono _ _ _ _ _ (c.2.2 x hx)⟩]
    exact h
  · rw [if_neg c] at h; cases h
def impl_BothHands.f (k : Nat) (l0 : List S67) (l1 : List S67) : Option (List S67 × Bool) := (impl_IsHand.f k l0).bind fun t => if t = true then ((impl_IsHand.f k l1).bind fun u => if u = true then impl_BothHands.g k l0 l1 else some ([], false)) else some ([], false)
theorem impl_BothHands.mono : ∀ a0 a1 k, LeO (impl_BothHands.f k a0 a1) (impl_BothHands.f (k + 1) a0 a1) := by
  intro a0 a1 k r h
  unfold impl_BothHands.f at h ⊢
  obtain ⟨t, h1, h2⟩ := Option.bind_eq_some_iff.1 h
  rw [impl_IsHand.mono _ _ _ h1, Option.bind_some]
  cases t with
  | false => exact h2
  | true =>
    rw [if_pos rfl] at h2 ⊢
    obtain ⟨u, h3, h4⟩ := Option.bind_eq_some_iff.1 h2
    rw [impl_IsHand.mono _ _ _ h3, Option.bind_some]
    cases u with
    | false => exact h4
    | true => rw [if_pos rfl] at h4 ⊢; exact impl_BothHands.gmono _ _ _ _ h4
set_option maxHeartbeats 8000000 in
set_option maxRecDepth 100000 in
theorem impl_BothHands.calls (k : Nat) (A0 : Option Addr) (c0 : Nat) (l0 : List S67) (A1 : Option Addr) (c1 : Nat) (l1 : List S67) (r1 : List S67) (r2 : Bool) (w : World) (hr0 : Kd.C k67 w A0 l0.length l0) (hc0 : l0.length ≤ c0) (hr1 : Kd.C k67 w A1 l1.length l1) (hc1 : l1.length ≤ c1) (h : impl_BothHands.f k l0 l1 = some (r1, r2)) :
    Calls Try.prog 37 #[.slice A0 l0.length c0, .slice A1 l1.length c1] w fun e w' => ∃ v0_ : Value, e = .returned (.tuple #[v0_, .bool r2]) ∧ Kd.R k67 67 w' w.heap.size (fun _ => True) v0_ r1 ∧ Below w.heap.size w w' := by
  have eg : ∀ args w, (callFunc 86 args).run Try.prog w = .ok (.enter 86 args) w := enters_of Try.func86 (by kernel_rfl) rfl
  have hmf : ∀ (fn : Fn) (first cap : Array Value) (w : World), (Instr.makeFunc fn first cap).run Try.prog w = .ok (.func fn first cap) w := fun _ _ _ _ => rfl
  unfold impl_BothHands.f at h
  obtain ⟨t, h1, h⟩ := Option.bind_eq_some_iff.1 h
  have hA : ∀ W, Below w.heap.size w W → Calls Try.prog 82 #[.slice A0 l0.length c0] W fun e w' => e = .returned (.bool t) ∧ Below W.heap.size W w' := fun W hb => impl_IsHand.calls k A0 c0 l0 t W (Kd.C_below hr0 hb) hc0 h1
  have HA := Aside0.mk (fun o => hA (w.alloc o) ((Below.refl _ _).alloc (Nat.le_refl _) o))
  cases t with
  | false =>
    rw [if_neg (by decide)] at h
    simp only [Option.some.injEq, Prod.mk.injEq] at h
    obtain ⟨rfl, rfl⟩ := h
    clear hA hr0 hr1 hc0 hc1 h1 eg
    go_enter Try.func37, Try.ntmps37
    go_wp2_with (go_at_call 82; refine (HA.out _).mono ?_; rintro e w1 ⟨rfl, hb1⟩)
    go_ret2
    exact ⟨_, rfl, Kd.R_nil _ _ _ _ _, below_then ((Below.refl _ _).alloc (Nat.le_refl _) _) (by simp) hb1⟩
  | true =>
    rw [if_pos rfl] at h
    obtain ⟨u, h2, h⟩ := Option.bind_eq_some_iff.1 h
    have hB : ∀ W, Below w.heap.size w W → Calls Try.prog 82 #[.slice A1 l1.length c1] W fun e w' => e = .returned (.bool u) ∧ Below W.heap.size W w' := fun W hb => impl_IsHand.calls k A1 c1 l1 u W (Kd.C_below hr1 hb) hc1 h2
    have HBB := Aside0.mk hB
    have hcl : ∀ o w1, Below (w.alloc o).heap.size (w.alloc o) w1 → (w.alloc o).cell? ⟨w.heap.size, 0, none⟩ = some (.slice A1 l1.length c1) → w1.cell? ⟨w.heap.size, 0, none⟩ = some (.slice A1 l1.length c1) := fun o w1 hb hc => (hb.cell (by simp)).trans hc
    cases u with
    | false =>
      rw [if_neg (by decide)] at h
      simp only [Option.some.injEq, Prod.mk.injEq] at h
      obtain ⟨rfl, rfl⟩ := h
      clear hA hB hr0 hr1 hc0 hc1 h1 h2 eg
      go_enter Try.func37, Try.ntmps37
      go_wp2_with (go_at_call 82; first | (go_loud (with_reducible refine (HA.out _).mono ?_); rintro e w1 ⟨rfl, hb1⟩; go_loud (have hcc := hcl _ _ hb1 (by simp only [World.cell?, heap_alloc_new]; rfl)); have HB1 := Aside0.mk (below_then ((Below.refl w.heap.size w).alloc (Nat.le_refl _) _) (by simp) hb1); clear hb1) | (go_loud (with_reducible refine (HBB.out _ HB1.out).mono ?_); rintro e w2 ⟨rfl, hb2⟩))
      go_ret2
      exact ⟨_, rfl, Kd.R_nil _ _ _ _ _, below_then HB1.out HB1.out.size hb2⟩
    | true =>
      rw [if_pos rfl] at h
      unfold impl_BothHands.g at h
      by_cases c : l0.length < 8796093022208 ∧ (∀ x ∈ l0, inT x) ∧ (∀ x ∈ l0, slices_Contains_Tile.f k l1 x.f0 x.f1 = some (decide (x ∈ l1)))
      · rw [if_pos c] at h
        simp only [Option.some.injEq, Prod.mk.injEq] at h
        obtain ⟨rfl, rfl⟩ := h
        have hk : ∀ W, Below w.heap.size w W → W.cell? ⟨w.heap.size, 0, none⟩ = some (.slice A1 l1.length c1) → Calls Try.prog 85 #[.slice A0 l0.length c0, .func (.func 86) #[] #[.pointer (some ⟨w.heap.size, 0, none⟩)]] W fun e w' => ∃ v0_ : Value, e = .returned (v0_) ∧ Kd.R k67 67 w' W.heap.size (fun _ => True) v0_ ((l0.mergeSort leT).filter fun x => decide (x ∈ l1)) ∧ Below W.heap.size W w' := fun W hb hcell =>
          impl_kept.gcalls 86 #[.pointer (some ⟨w.heap.size, 0, none⟩)] (fun x => decide (x ∈ l1)) A0 c0 l0 W eg (Kd.C_below hr0 hb) hc0 c.2.1 c.1 (fun x hx W2 hb2 => impl_BothHands_1.gcalls k x A1 c1 l1 w.heap.size (decide (x ∈ l1)) W2 (Kd.C_below hr1 (below_then hb hb.size hb2)) hc1 ((hb2.cell (World.block_lt_of_cell? W _ hcell)).trans hcell) (c.2.2 x hx))
        have HK := Aside0.mk hk
        clear hk hA hB hr0 hc0 hr1 hc1 h1 h2 c eg
        go_enter Try.func37, Try.ntmps37
        go_wp2_with (first | (go_at_call 82; first | (go_loud (with_reducible refine (HA.out _).mono ?_); rintro e w1 ⟨rfl, hb1⟩; go_loud (have hcc := hcl _ _ hb1 (by simp only [World.cell?, heap_alloc_new]; rfl)); have HB1 := Aside0.mk (below_then ((Below.refl w.heap.size w).alloc (Nat.le_refl _) _) (by simp) hb1); clear hb1) | (go_loud (with_reducible refine (HBB.out _ HB1.out).mono ?_); rintro e w2 ⟨rfl, hb2⟩; have HB2 := Aside0.mk (below_then HB1.out HB1.out.size hb2); replace hcc := (hb2.cell (World.block_lt_of_cell? _ _ hcc)).trans hcc; clear hb2)) | (go_at_call 85; refine (HK.out _ HB2.out hcc).mono ?_; rintro e w3 ⟨v3, rfl, ho3, hb3⟩))
        go_ret2
        exact ⟨_, rfl, Kd.R_lower ho3 HB2.out.size, below_then HB2.out HB2.out.size hb3⟩
      · rw [if_neg c] at h
        exact absurd h (by simp)

end

end Go.Proofs.Ytdpimdaofikmjaa.P
