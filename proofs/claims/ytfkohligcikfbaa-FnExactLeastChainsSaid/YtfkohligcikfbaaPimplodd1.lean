-- Printed by a program of this session (wip/myprint.py, which drives the kit's print): what one function of the program does, and the proof that its call does so.
import Derived.Lib.SliceRun
import Derived.WalkSpells
import Derived.Test.YtfkohligcikfbaaP0
import Derived.Test.YtfkohligcikfbaaPId
namespace Go.Proofs.Ytfkohligcikfbaa.P
open Go.RowKit Go.Proofs.YtfkohligcikfbaaW.PrintWords Go.Proofs.YtfkohligcikfbaaW.PrintLast Go.Proofs.YtfkohligcikfbaaW.PrintMore
attribute [local go_sem] max2_int min2_int max_two min_two max_three min_three max_four min_four   -- for this text's walks alone
set_option linter.unusedVariables false
set_option linter.unusedSimpArgs false

/-! ### impl_odd_1: function 69: written by hand -/
set_option maxHeartbeats 4000000 in
theorem impl_odd_1.gcalls (k : Nat) (n : Int) (A1 : Option Addr) (c1 : Nat) (l1 : List S49) (b : Nat) (r : Int) (W : World) (hr1 : Kd.C k49 W A1 l1.length l1) (hc1 : l1.length ≤ c1) (hc : W.cell? ⟨b, 0, none⟩ = some (.slice A1 l1.length c1)) (h : impl_times.f k l1 n = some r) (hr : 0 ≤ r ∧ r ≤ 1000) :
    Calls Try.prog 69 #[.int .i64 n, .pointer (some ⟨b, 0, none⟩)] W fun e W' => e = .returned (.bool (decide (r % 2 = 0))) ∧ Below W.heap.size W W' := by
  have hlt := World.block_lt_of_cell? W _ hc
  have hcall : ∀ W', Below W.heap.size W W' → Calls Try.prog 70 #[.slice A1 l1.length c1, .int .i64 n] W' fun e W'' => e = .returned (.int .i64 r) ∧ Below W'.heap.size W' W'' := fun W' hb => impl_times.calls k A1 c1 l1 n r W' (Kd.C_below hr1 hb) hc1 h
  have HC := Aside0.mk hcall
  have hm : Int.tmod r 2 = r % 2 := Int.tmod_eq_emod_of_nonneg hr.1
  clear hcall hr1 hc1 h
  go_enter Try.func69, Try.ntmps69
  go_wp2_with (go_at_call 70; refine (HC.out _ (by first | exact Below.refl _ _ | exact (Below.refl _ _).alloc (Nat.le_refl _) _)).mono ?_; rintro e w2 ⟨rfl, hb2⟩)
  go_ret
  exact ⟨by first | (simp; done) | (simp; rfl) | rfl, by first | exact hb2 | exact below_then ((Below.refl _ _).alloc (Nat.le_refl _) _) (by simp) hb2⟩

end Go.Proofs.Ytfkohligcikfbaa.P
