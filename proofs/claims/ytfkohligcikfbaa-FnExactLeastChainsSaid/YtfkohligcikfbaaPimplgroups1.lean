-- Printed by a program of this session (wip/myprint.py, which drives the kit's print): what one function of the program does, and the proof that its call does so.
import Derived.Lib.SliceRun
import Derived.WalkSpells
import Derived.Test.YtfkohligcikfbaaP0
namespace Go.Proofs.Ytfkohligcikfbaa.P
open Go.RowKit Go.Proofs.YtfkohligcikfbaaW.PrintWords Go.Proofs.YtfkohligcikfbaaW.PrintLast Go.Proofs.YtfkohligcikfbaaW.PrintMore
attribute [local go_sem] max2_int min2_int max_two min_two max_three min_three max_four min_four   -- for this text's walks alone
set_option linter.unusedVariables false
set_option linter.unusedSimpArgs false

/-! ### impl_groups_1: function 62: written by hand -/
set_option maxHeartbeats 4000000 in
theorem impl_groups_1.gcalls (i : Nat) (g cap : Nat) (l : List Int) (b1 b2 : Nat) (m : Int) (W : World) (hi : i < l.length) (hrow : rowI W g cap l) (hc : W.cell? ⟨b1, 0, none⟩ = some (.slice (some ⟨g, 0, none⟩) l.length cap)) (hd : W.cell? ⟨b2, 0, none⟩ = some (.int .i64 m)) (hbig : l.length ≤ 1000) :
    Calls Try.prog 62 #[.int .i64 i, .pointer (some ⟨b1, 0, none⟩), .pointer (some ⟨b2, 0, none⟩)] W fun e W' => e = .returned (.bool (!decide (rd l i = m))) ∧ Below W.heap.size W W' := by
  obtain ⟨x, hx⟩ : ∃ x, l[i]? = some x := ⟨_, List.getElem?_eq_getElem hi⟩
  have hv : rd l (i : Int) = x := by
    show l.getD (i : Int).toNat _ = x
    rw [Int.toNat_natCast, List.getD_eq_getElem?_getD, hx]; rfl
  obtain ⟨c0, _⟩ := rowI_at hrow i x hx
  rw [hv]
  have hltz : (i : Int) < (l.length : Int) := by omega
  have hlt1 := World.block_lt_of_cell? W _ hc
  have hlt2 := World.block_lt_of_cell? W _ hd
  clear hrow hv hx
  go_enter Try.func62, Try.ntmps62
  go_wp2
  repeat (go_quiet (fail); try go_wp2)
  go_ret
  exact ⟨by by_cases e : x = m <;> simp [e], by first | exact Below.refl _ _ | exact Drawn0.below (by repeat (first | exact Drawn0.refl _ | apply Drawn0.step))⟩

end Go.Proofs.Ytfkohligcikfbaa.P
