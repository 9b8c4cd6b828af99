-- Printed by a program of this session (wip/myprint.py, which drives the kit's print): what one function of the program does, and the proof that its call does so.
import Derived.Lib.SliceRun
import Derived.WalkSpells
import Derived.Test.YtdpimdaofikmjaaP0
import Derived.Test.YtdpimdaofikmjaaPIb
namespace Go.Proofs.Ytdpimdaofikmjaa.P
open Go.RowKit Go.Proofs.YtdpimdaofikmjaaW.PrintWords Go.Proofs.YtdpimdaofikmjaaW.PrintLast Go.Proofs.YtdpimdaofikmjaaW.PrintMore
attribute [local go_sem] max2_int min2_int max_two min_two max_three min_three max_four min_four   -- for this text's walks alone
set_option linter.unusedVariables false
set_option linter.unusedSimpArgs false

/-! ### impl_BothHands_1: function 86: written by hand -/
set_option maxHeartbeats 4000000 in
theorem impl_BothHands_1.gcalls (k : Nat) (x : S67) (A1 : Option Addr) (c1 : Nat) (l1 : List S67) (b : Nat) (r : Bool) (W : World) (hr1 : Kd.C k67 W A1 l1.length l1) (hc1 : l1.length ≤ c1) (hc : W.cell? ⟨b, 0, none⟩ = some (.slice A1 l1.length c1)) (h : slices_Contains_Tile.f k l1 x.f0 x.f1 = some r) :
    Calls Try.prog 86 #[.agg #[.int .i64 x.f0, .int .i64 x.f1], .pointer (some ⟨b, 0, none⟩)] W fun e W' => e = .returned (.bool r) ∧ Below W.heap.size W W' := by
  have hlt := World.block_lt_of_cell? W _ hc
  have hcall : ∀ W', Below W.heap.size W W' → Calls Try.prog 87 #[.slice A1 l1.length c1, .agg #[.int .i64 x.f0, .int .i64 x.f1]] W' fun e W'' => e = .returned (.bool r) ∧ Below W'.heap.size W' W'' := fun W' hb => slices_Contains_Tile.calls k A1 c1 l1 x.f0 x.f1 r W' (Kd.C_below hr1 hb) hc1 h
  have HC := Aside0.mk hcall
  clear hcall hr1 hc1 h
  have hc2 : ∀ o, (W.alloc o).cell? ⟨b, 0, none⟩ = some (.slice A1 l1.length c1) := fun o => Lib.cell?_alloc_some o hc
  go_enter Try.func86, Try.ntmps86
  go_wp2_with (go_at_call 87; refine (HC.out _ (by first | exact Below.refl _ _ | exact (Below.refl _ _).alloc (Nat.le_refl _) _)).mono ?_; rintro e w2 ⟨rfl, hb2⟩)
  go_ret
  exact ⟨by simp, by first | exact hb2 | exact below_then ((Below.refl _ _).alloc (Nat.le_refl _) _) (by simp) hb2⟩

end Go.Proofs.Ytdpimdaofikmjaa.P
