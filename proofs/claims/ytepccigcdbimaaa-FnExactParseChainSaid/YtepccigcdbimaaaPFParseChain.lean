-- Printed by a program of this session (wip/myprint.py, which drives the kit's print): what one function of the program does, and the proof that its call does so.
import Derived.Lib.ConvBytes
import Derived.Lib.SliceRun
import Derived.WalkSpells
import Derived.Test.YtepccigcdbimaaaP0
import Derived.Test.YtepccigcdbimaaaPIc
import Derived.Test.YtepccigcdbimaaaPSf
namespace Go.Proofs.Ytepccigcdbimaaa.P
open Go.RowKit Go.Proofs.YtepccigcdbimaaaW.PrintWords Go.Proofs.YtepccigcdbimaaaW.PrintLast Go.Proofs.YtepccigcdbimaaaW.PrintMore
attribute [local go_sem] max2_int min2_int max_two min_two max_three min_three max_four min_four   -- for this text's walks alone
set_option linter.unusedVariables false
set_option linter.unusedSimpArgs false

section
/-! ### spec_ParseChain: function 24 -/
def spec_ParseChain.f (k : Nat) (a0 : ByteArray) : Option (List Int × Bool) := (spec_haParse.f k a0).bind fun bt278 => (if bt278.2 = true then (some (bt278.1, true)) else (some (([] : List Int), false)))
theorem spec_ParseChain.mono : ∀ a0 k, LeO (spec_ParseChain.f k a0) (spec_ParseChain.f (k + 1) a0) := by
  intro a0 k
  unfold spec_ParseChain.f
  repeat' first
      | (with_reducible exact spec_haParse.mono _ _)
      | (with_reducible exact LeO.refl _)
      | (with_reducible exact LeO.none _)
      | (with_reducible refine LeO.ite ?_ ?_)
      | (with_reducible refine LeO.bind ?_ (fun _ => ?_))
      | exact spec_haParse.mono _ _
      | exact LeO.none _
      | refine LeO.ite ?_ ?_
      | refine LeO.bind ?_ (fun _ => ?_)
set_option maxHeartbeats 8000000 in
set_option maxRecDepth 100000 in
theorem spec_ParseChain.calls (k : Nat) (a0 : ByteArray) (r1 : List Int) (r2 : Bool) (w : World) (h : spec_ParseChain.f k a0 = some (r1, r2)) :
    Calls Try.prog 24 #[.string a0] w fun e w' => ∃ v0_ : Value, e = .returned (.tuple #[v0_, .bool r2]) ∧ Kd.R (Kd.int .i64) 3 w' w.heap.size (fun _ => True) v0_ r1 ∧ Below w.heap.size w w' := by
  have HB := Aside0.mk (Below.refl w.heap.size w)
  have H : ((spec_haParse.f k a0).bind fun bt278 => (if bt278.2 = true then (some (bt278.1, true)) else (some (([] : List Int), false)))) = some (r1, r2) := h
  clear h
  replace H := Option.bind_eq_some_iff.mp H
  obtain ⟨⟨t278, t279⟩, A20, H⟩ := H
  replace H : (if t279 = true then (some (t278, true)) else (some (([] : List Int), false))) = some (r1, r2) := H
  have A2 := Aside0.mk A20
  clear A20
  by_cases c3 : t279 = true
  · subst c3
    have H1 : (some (t278, true)) = some (r1, r2) := by rw [if_pos rfl] at H; exact H
    clear H
    have H := H1
    clear H1
    simp only [Option.some.injEq, Prod.mk.injEq] at H
    obtain ⟨rfl, rfl⟩ := H
    go_enter Try.func24, Try.ntmps24
    go_wp2_with (first | ((with_reducible refine gate_callee (f := 61) rfl ?_); refine goesL_ (some 8) rfl rfl Try.func61 (by kernel_rfl) rfl #[.string a0] rfl (by (try simp only [List.map_toArray, List.map_cons, List.map_nil]); first | done | rfl | (simp only [List.length_drop, List.length_take]; rfl)) ?_; (with_reducible refine (spec_haParse.calls k a0 t278 true _ A2.out).mono ?_); rintro e w4 ⟨v280, rfl, ho0, hb⟩; refine ⟨_, rfl, ?_⟩; have n0_ := Aside0.mk (Kd.R_lower ho0 (below_size (by repeat (first | (with_reducible first | exact HB.out | apply below_alloc | apply pw_below_drewN | apply below_drew1) | exact HB.out)))); have n1_ := Aside0.mk (below_step (by repeat (first | (with_reducible first | exact HB.out | apply below_alloc | apply pw_below_drewN | apply below_drew1) | exact HB.out)) hb); clear HB; have HO281 := n0_; have HB := n1_; clear n0_ n1_; (try clear hb); (try clear hb2); (try clear hk); (try clear hi); (try clear ho0)))
    go_ret2
    exact ⟨_, by first | rfl | (simp [errW_none, errW_some] <;> rfl) | (simp [*, errW_none, errW_some] <;> rfl), by (with_reducible repeat (first | apply Kd.R_alloc | apply Kd.R_drewN | apply Kd.R_drew)); exact HO281.out, by repeat (first | (with_reducible first | exact HB.out | apply below_alloc | apply pw_below_drewN | apply below_drew1) | exact HB.out)⟩
  · replace c3 := Bool.eq_false_iff.mpr c3
    subst c3
    have H1 : (some (([] : List Int), false)) = some (r1, r2) := by rw [if_neg (show ¬ (false = true) by decide)] at H; exact H
    clear H
    have H := H1
    clear H1
    simp only [Option.some.injEq, Prod.mk.injEq] at H
    obtain ⟨rfl, rfl⟩ := H
    go_enter Try.func24, Try.ntmps24
    go_wp2_with (first | ((with_reducible refine gate_callee (f := 61) rfl ?_); refine goesL_ (some 8) rfl rfl Try.func61 (by kernel_rfl) rfl #[.string a0] rfl (by (try simp only [List.map_toArray, List.map_cons, List.map_nil]); first | done | rfl | (simp only [List.length_drop, List.length_take]; rfl)) ?_; (with_reducible refine (spec_haParse.calls k a0 t278 false _ A2.out).mono ?_); rintro e w5 ⟨v280, rfl, ho0, hb⟩; refine ⟨_, rfl, ?_⟩; have n0_ := Aside0.mk (Kd.R_lower ho0 (below_size (by repeat (first | (with_reducible first | exact HB.out | apply below_alloc | apply pw_below_drewN | apply below_drew1) | exact HB.out)))); have n1_ := Aside0.mk (below_step (by repeat (first | (with_reducible first | exact HB.out | apply below_alloc | apply pw_below_drewN | apply below_drew1) | exact HB.out)) hb); clear HB; have HO281 := n0_; have HB := n1_; clear n0_ n1_; (try clear hb); (try clear hb2); (try clear hk); (try clear hi); (try clear ho0)))
    go_ret2
    exact ⟨_, by first | rfl | (simp [errW_none, errW_some] <;> rfl) | (simp [*, errW_none, errW_some] <;> rfl), by first | exact Kd.R_nil _ _ _ _ _ | exact Kd.N_nil _ _ _ _ _ | exact Kd.V_nil _ _ _ _ _ | exact Kd.Q_nil _ _ _ _ _ | exact Kd.S_nil _ _ _ _ _, by repeat (first | (with_reducible first | exact HB.out | apply below_alloc | apply pw_below_drewN | apply below_drew1) | exact HB.out)⟩

end

section
/-! ### impl_ParseChain: function 25: written by hand -/
/-- The bytes of a text, 48 less each. -/
def chainOf (s : ByteArray) : List Int := s.data.toList.map fun b => ((b.toNat : Nat) : Int) - 48
theorem chainOf_length (s : ByteArray) : (chainOf s).length = s.size := by simp [chainOf]
def impl_ParseChain.f (k : Nat) (a0 : ByteArray) : Option (List Int × Bool) := if a0.size ≤ 1048576 then ((impl_IsChain.f k (chainOf a0)).bind fun t => if t = true then some (chainOf a0, true) else some ([], false)) else none
theorem impl_ParseChain.mono : ∀ a0 k, LeO (impl_ParseChain.f k a0) (impl_ParseChain.f (k + 1) a0) := by
  intro a0 k r h
  unfold impl_ParseChain.f at h ⊢
  by_cases c : a0.size ≤ 1048576
  · rw [if_pos c] at h ⊢
    obtain ⟨t, h1, h2⟩ := Option.bind_eq_some_iff.1 h
    rw [impl_IsChain.mono _ _ _ h1, Option.bind_some]
    exact h2
  · rw [if_neg c] at h; cases h
set_option maxHeartbeats 8000000 in
set_option maxRecDepth 100000 in
theorem impl_ParseChain.calls (k : Nat) (a0 : ByteArray) (r1 : List Int) (r2 : Bool) (w : World) (h : impl_ParseChain.f k a0 = some (r1, r2)) :
    Calls Try.prog 25 #[.string a0] w fun e w' => ∃ v0_ : Value, e = .returned (.tuple #[v0_, .bool r2]) ∧ Kd.R (Kd.int .i64) 3 w' w.heap.size (fun _ => True) v0_ r1 ∧ Below w.heap.size w w' := by
  unfold impl_ParseChain.f at h
  by_cases c : a0.size ≤ 1048576
  · rw [if_pos c] at h
    obtain ⟨t, h1, h2⟩ := Option.bind_eq_some_iff.1 h
    have hconv : ∀ W : World, (convert 9 75 (.string a0)).run Try.prog W = .ok (.slice (some ⟨W.heap.size, 0, none⟩) a0.size (grownCap W a0.size 0 5)) (Go.Lib.bytesWorld W 5 a0) := fun W => Go.Lib.run_convert_string_bytes W _ _ _ a0 Try.underlying9 Try.underlying75 Try.underlying5
    have hlen := chainOf_length a0
    have hI : ∀ (W : World) (v : Value) (B : Nat) (ok : Nat → Prop), Kd.R (Kd.int .i64) 3 W B ok v (chainOf a0) → Calls Try.prog 52 #[v] W fun e w' => e = .returned (.bool t) ∧ Below W.heap.size W w' := by
      intro W v B ok ho
      obtain ⟨A, cc, rfl, hlc, hCC⟩ := Kd.R_reads ho
      exact impl_IsChain.calls k A cc (chainOf a0) t W hCC hlc h1
    have HI := Aside0.mk hI
    have H2 := Aside0.mk h2
    clear hI h1 h2
    have hby : ∀ j, j < a0.size → (Go.Lib.bytesWorld (w.alloc (.cells #[] 3)) 5 a0).cell? ⟨w.heap.size + 1, j, none⟩ = some (.int .u8 (a0.data.toList.getD j 0).toNat) := fun j hj => by
      have := Go.Lib.bytesWorld_cell (w.alloc (.cells #[] 3)) 5 a0 j hj
      rwa [show (w.alloc (.cells #[] 3)).heap.size = w.heap.size + 1 by simp] at this
    have hsz : (Go.Lib.bytesWorld (w.alloc (.cells #[] 3)) 5 a0).heap.size = w.heap.size + 2 := by rw [Go.Lib.bytesWorld_size]; simp
    have hbw : Below w.heap.size w (Go.Lib.bytesWorld (w.alloc (.cells #[] 3)) 5 a0) := by
      refine ((Below.refl w.heap.size w).alloc (Nat.le_refl _) _).trans ⟨rfl, rfl, rfl, by rw [hsz]; simp, fun j hj => Go.Lib.bytesWorld_at_old _ _ _ j (by simp; omega)⟩
    have hrow : rowI (Go.Lib.bytesWorld (w.alloc (.cells #[] 3)) 5 a0) w.heap.size 0 [] := ⟨#[], (Go.Lib.bytesWorld_at_old _ _ _ w.heap.size (by simp)).trans (heap_alloc_new w _), rfl, Nat.le_refl _, fun i x hx => by simp at hx⟩
    have HO0 := Aside0.mk (R_of_rowI (base := w.heap.size) (ok := fun b => b ≠ w.heap.size + 1) hrow (Nat.le_refl _) (by omega) (by simp [maxLen]))
    have HBW := Aside0.mk hbw
    have HBY := Aside0.mk hby
    have HSZ := Aside0.mk hsz
    clear hrow hbw hby hsz
    go_enter Try.func25, Try.ntmps25
    go_wp2
    go_loopg [4, 11] a0.size (fun gg v4 v11 wr => ∃ i : Nat, v11 = .int .i64 i ∧ i ≤ a0.size ∧ a0.size - i ≤ gg ∧ Aside0 (Kd.R (Kd.int .i64) 3 wr w.heap.size (fun b => b ≠ w.heap.size + 1) v4 ((chainOf a0).take i)) ∧ Aside0 (Below w.heap.size w wr) ∧ Aside0 (w.heap.size + 2 ≤ wr.heap.size) ∧ Aside0 (∀ j, j < a0.size → wr.cell? ⟨w.heap.size + 1, j, none⟩ = some (.int .u8 (a0.data.toList.getD j 0).toNat)))
    case atStart => exact ⟨0, rfl, by omega, by omega, HO0, HBW, ⟨Nat.le_of_eq HSZ.out.symm⟩, HBY⟩
    case round =>
      obtain ⟨i, rfl, hi, hg, HO, HB, HS, HC⟩ := hrel
      by_cases hlt : i < a0.size
      · have hltz : (i : Int) < (a0.size : Int) := by omega
        have hx0 := HC.out i hlt
        obtain ⟨x, hx⟩ : ∃ x : Int, x = (((a0.data.toList.getD i 0).toNat : Nat) : Int) := ⟨_, rfl⟩
        rw [← hx] at hx0
        have hxb : 0 ≤ x ∧ x < 256 := by have := (a0.data.toList.getD i 0).toNat_lt; omega
        have hnext : (chainOf a0).take (i + 1) = (chainOf a0).take i ++ [x - 48] := by
          have hl : i < a0.data.toList.length := by simpa using hlt
          have hv : (chainOf a0)[i]? = some (x - 48) := by
            unfold chainOf
            rw [List.getElem?_map, hx, List.getD_eq_getElem?_getD, List.getElem?_eq_getElem hl]
            rfl
          rw [List.take_add_one, hv]; rfl
        have HN := Aside0.mk hnext
        have htl : ((chainOf a0).take i).length ≤ 1048576 := by rw [List.length_take]; omega
        clear hx hnext
        go_wp2_with ((with_reducible refine gate_builtin (b := .append) (xs := #[.tmp 15, .tmp 19]) rfl ?_); at_builtin; refine Kd.R_append (Kd.int .i64) (w0 := w) w.heap.size rfl (.tmp 15) (.tmp 19) 22 3 (.int .i64 0) 8 rfl Try.underlying22 info3 rfl (by decide) (by omega) _ ((chainOf a0).take i) (x - 48) [.int .i64 (x - 48)] (fun b => b ≠ w.heap.size + 1) (fun _ => False) rfl ?aX rfl (fun _ hk => hk.elim) ?aF HO.out HB.out ?aS (by omega) ?_; (case aX => rfl); (case aF => intro b hb; have := HS.out; omega); (case aS => exact HB.out.size); intro v1 w1 ho hb hg hat; rw [← HN.out] at ho; have HO1 := Aside0.mk ho; have HB1 := Aside0.mk hb; have HG1 := Aside0.mk hg; clear ho hb hg hat)
        go_roundg (a0.size - (i + 1))
        case measure => omega
        case rel => exact ⟨i + 1, by go_num, by omega, Nat.le_refl _, HO1, HB1, ⟨Nat.le_trans HS.out HG1.out.size⟩, ⟨fun j hj => (HG1.out.cell_far _ (by show w.heap.size + 1 < _; have := HS.out; omega) (fun e => HO.out.1 _ e.symm rfl)).trans (HC.out j hj)⟩⟩
      · obtain rfl : i = a0.size := by omega
        have hltz : ¬ (a0.size : Int) < (a0.size : Int) := by omega
        have hw := HO.out
        rw [List.take_of_length_le (by omega)] at hw
        have HW := Aside0.mk hw
        clear hw
        have h2 := H2.out
        cases t with
        | false =>
          rw [if_neg (by decide)] at h2
          simp only [Option.some.injEq, Prod.mk.injEq] at h2
          obtain ⟨rfl, rfl⟩ := h2
          go_wp2_with (go_at_call 52; refine (HI.out _ _ _ _ HW.out).mono ?_; rintro e w2 ⟨rfl, hb2⟩)
          go_ret2
          exact ⟨_, rfl, Kd.R_nil _ _ _ _ _, below_then HB.out HB.out.size hb2⟩
        | true =>
          rw [if_pos rfl] at h2
          simp only [Option.some.injEq, Prod.mk.injEq] at h2
          obtain ⟨rfl, rfl⟩ := h2
          go_wp2_with (go_at_call 52; refine (HI.out _ _ _ _ HW.out).mono ?_; rintro e w2 ⟨rfl, hb2⟩)
          go_ret2
          exact ⟨_, rfl, Kd.R_mono (Kd.R_below HW.out hb2) (fun _ _ => trivial), below_then HB.out HB.out.size hb2⟩
  · rw [if_neg c] at h
    exact absurd h (by simp)

end

end Go.Proofs.Ytepccigcdbimaaa.P
