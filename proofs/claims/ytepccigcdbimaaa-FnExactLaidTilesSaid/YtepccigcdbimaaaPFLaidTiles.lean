-- Printed by a program of this session (wip/myprint.py, which drives the kit's print): what one function of the program does, and the proof that its call does so.
import Derived.BigRegion
import Derived.Lib.SliceRun
import Derived.RegionTactic
import Derived.WalkSpells
import Derived.Test.YtepccigcdbimaaaP0
import Derived.Test.YtepccigcdbimaaaPIz
import Derived.Test.YtepccigcdbimaaaPSz
import Derived.Test.YtepccigcdbimaaaPimplspreadplay
namespace Go.Proofs.Ytepccigcdbimaaa.P
open Go.RowKit Go.Proofs.YtepccigcdbimaaaW.PrintWords Go.Proofs.YtepccigcdbimaaaW.PrintLast Go.Proofs.YtepccigcdbimaaaW.PrintMore
attribute [local go_sem] max2_int min2_int max_two min_two max_three min_three max_four min_four   -- for this text's walks alone
set_option linter.unusedVariables false
set_option linter.unusedSimpArgs false

section
/-! ### spec_LaidTiles: function 43: written by hand -/
def spec_LaidTiles.f (k : Nat) (l0 : List S61) : Option (List S59 × Bool) := if 40 ≤ k then some (match readL l0 with | some s => (s.tiles, true) | none => ([], false)) else none
theorem spec_LaidTiles.mono : ∀ a0 k, LeO (spec_LaidTiles.f k a0) (spec_LaidTiles.f (k + 1) a0) := by
  intro a0 k r h
  unfold spec_LaidTiles.f at h ⊢
  by_cases c : 40 ≤ k
  · rw [if_pos c] at h; rw [if_pos (by omega)]; exact h
  · rw [if_neg c] at h; cases h
set_option maxHeartbeats 4000000 in
set_option maxRecDepth 100000 in
theorem spec_LaidTiles.calls (k : Nat) (A0 : Option Addr) (c0 : Nat) (l0 : List S61) (r1 : List S59) (r2 : Bool) (w : World) (hr0 : Kd.C k61 w A0 l0.length l0) (hc0 : l0.length ≤ c0) (h : spec_LaidTiles.f k l0 = some (r1, r2)) :
    Calls Try.prog 43 #[.slice A0 l0.length c0] w fun e w' => ∃ v0_ : Value, e = .returned (.tuple #[v0_, .bool r2]) ∧ Kd.R k59 59 w' w.heap.size (fun _ => True) v0_ r1 ∧ Below w.heap.size w w' := by
  unfold spec_LaidTiles.f at h
  by_cases c : 40 ≤ k
  case neg => rw [if_neg c] at h; cases h
  rw [if_pos c] at h
  have h2 := Option.some.inj h
  obtain ⟨o, ho⟩ : ∃ o, o = readL l0 := ⟨_, rfl⟩
  rw [← ho] at h2
  have HSO := Aside0.mk (spec_lyRead.gcalls k c A0 c0 l0 w hr0 hc0 o ho.symm)
  clear hr0 hc0 ho h
  cases o with
  | none =>
    simp only [Prod.mk.injEq] at h2
    obtain ⟨rfl, rfl⟩ := h2
    go_enter Try.func43, Try.ntmps43
    go_wp2_with (go_at_call 64; refine (HSO.out).mono ?_; rintro e w2 ⟨rfl, hs, hb, hz⟩; have HB := Aside0.mk hb; clear hs hb hz)
    go_ret2
    exact ⟨_, by first | rfl | simp, Kd.R_nil _ _ _ _ _, HB.out⟩
  | some s =>
    simp only [Prod.mk.injEq] at h2
    obtain ⟨rfl, rfl⟩ := h2
    go_enter Try.func43, Try.ntmps43
    go_wp2_with (go_at_call 64; refine (HSO.out).mono ?_; rintro e w2 ⟨rfl, hs, hb, hz⟩; obtain ⟨va, vt, hG, hRA, hRT⟩ := hs _ rfl; obtain ⟨Aa, ca, rfl⟩ := Kd.R_slice hRA; obtain ⟨At, ct, rfl⟩ := Kd.R_slice hRT; obtain ⟨s0, fs0⟩ := heap_cell hG 0 _ rfl; obtain ⟨s1, fs1⟩ := heap_cell hG 1 _ rfl; obtain ⟨s2, fs2⟩ := heap_cell hG 2 (.int .i64 s.sp) rfl; have HRA := Aside0.mk hRA; have HRT := Aside0.mk hRT; have HB := Aside0.mk hb; clear hs hb hRA hRT hG)
    go_ret2
    exact ⟨_, by first | rfl | simp, HRT.out, HB.out⟩

end

section
/-! ### impl_LaidTiles: function 44: written by hand -/
def impl_LaidTiles.f (k : Nat) (l0 : List S61) : Option (List S59 × Bool) := if 40 ≤ k then some (((runS l0 S0S).getD zS).tiles, (runS l0 S0S).isSome) else none
theorem impl_LaidTiles.mono : ∀ a0 k, LeO (impl_LaidTiles.f k a0) (impl_LaidTiles.f (k + 1) a0) := by
  intro a0 k r h
  unfold impl_LaidTiles.f at h ⊢
  by_cases c : 40 ≤ k
  · rw [if_pos c] at h; rw [if_pos (by omega)]; exact h
  · rw [if_neg c] at h; cases h
set_option maxHeartbeats 4000000 in
set_option maxRecDepth 100000 in
theorem impl_LaidTiles.calls (k : Nat) (A0 : Option Addr) (c0 : Nat) (l0 : List S61) (r1 : List S59) (r2 : Bool) (w : World) (hr0 : Kd.C k61 w A0 l0.length l0) (hc0 : l0.length ≤ c0) (h : impl_LaidTiles.f k l0 = some (r1, r2)) :
    Calls Try.prog 44 #[.slice A0 l0.length c0] w fun e w' => ∃ v0_ : Value, e = .returned (.tuple #[v0_, .bool r2]) ∧ Kd.R k59 59 w' w.heap.size (fun _ => True) v0_ r1 ∧ Below w.heap.size w w' := by
  unfold impl_LaidTiles.f at h
  by_cases c : 40 ≤ k
  case neg => rw [if_neg c] at h; cases h
  rw [if_pos c] at h
  have h2 := Option.some.inj h
  obtain ⟨o, ho⟩ : ∃ o, o = runS l0 S0S := ⟨_, rfl⟩
  rw [← ho] at h2
  have hso : ∀ W, Below w.heap.size w W → Calls Try.prog 65 #[.slice A0 l0.length c0] W fun e w' => ∃ va vt : Value, e = .returned (.tuple #[.agg #[va, vt, .int .i64 (o.getD zS).sp, .bool (o.getD zS).w0, .bool (o.getD zS).w1], .bool o.isSome]) ∧ Kd.R k93 93 w' W.heap.size (fun _ => True) va (o.getD zS).arms ∧ Kd.R k59 59 w' W.heap.size (fun _ => True) vt (o.getD zS).tiles ∧ Below W.heap.size W w' := fun W hb =>
    impl_spreadOf.gcalls k c A0 c0 l0 W (Kd.C_below hr0 hb) hc0 o ho.symm
  have HSO := Aside0.mk hso
  clear hso hr0 hc0 ho h
  simp only [Prod.mk.injEq] at h2
  obtain ⟨rfl, rfl⟩ := h2
  go_enter Try.func44, Try.ntmps44
  go_wp2_with (go_at_call 65; refine (HSO.out _ (by first | exact Below.refl _ _ | exact (Below.refl _ _).alloc (Nat.le_refl _) _)).mono ?_; rintro e w2 ⟨va, vt, rfl, hra, hrt, hb⟩; obtain ⟨Aa, ca, rfl⟩ := Kd.R_slice hra; obtain ⟨At, ct, rfl⟩ := Kd.R_slice hrt; have HRA := Aside0.mk hra; have HRT := Aside0.mk hrt; have HB := Aside0.mk hb; clear hra hrt hb)
  go_ret2
  exact ⟨_, by first | rfl | simp, Kd.R_alloc HRT.out _, HB.out.alloc HB.out.size _⟩

end

end Go.Proofs.Ytepccigcdbimaaa.P
