/- Proved here: the pure statement behind FnExactTileOf: the program's function and the reference's give the same answer. Conditions: none beyond that the whole numbers are 64-bit ones. -/
import Derived.Test.YtafehlajangbfaaPFnExactTileOfx1
namespace Go.Proofs.Ytafehlajangbfaa.Pure
open Go.RowKit Go.Proofs.Ytafehlajangbfaa.PFnExactTileOf Go.Proofs.YtafehlajangbfaaW.PrintWords Go.Proofs.YtafehlajangbfaaW.PrintLast

theorem num_eq (a : Int) : impl_isNumber.f a = spec_tiNumber.f a := by
  unfold impl_isNumber.f impl_within.f spec_tiNumber.f spec_l1In.f
  rfl

theorem tile_eq (a b : Int) : impl_tile.f a b = spec_tiOf.f a b := by
  unfold impl_tile.f spec_tiOf.f spec_l1Least.f spec_l1Most.f
  by_cases h : a < b
  · rw [if_pos h, if_neg (by omega)]; simp only [Option.bind_some]; congr 1; simp only [Prod.mk.injEq]; constructor <;> (first | unfold mn | unfold mx) <;> omega
  · rw [if_neg h]; by_cases h2 : a > b
    · rw [if_pos h2]; simp only [Option.bind_some]; congr 1; simp only [Prod.mk.injEq]; constructor <;> (first | unfold mn | unfold mx) <;> omega
    · rw [if_neg h2]; simp only [Option.bind_some]; congr 1; simp only [Prod.mk.injEq]; constructor <;> (first | unfold mn | unfold mx) <;> omega

theorem spec_some (a b : Int) : ∃ r, spec_TileOf.f a b = some r := by
  unfold spec_TileOf.f spec_tiNumber.f spec_l1In.f spec_tiOf.f spec_l1Least.f spec_l1Most.f
  repeat (first | split | (simp only [Option.bind_some]) | exact ⟨_, rfl⟩)

theorem FnExactTileOf : laws_FnExactTileOf.Pure := by
  intro a0 a1 _ _
  have h : impl_TileOf.f a0 a1 = spec_TileOf.f a0 a1 := by
    unfold impl_TileOf.f spec_TileOf.f
    rw [num_eq, num_eq, tile_eq]
  obtain ⟨r, hr⟩ := spec_some a0 a1
  unfold laws_FnExactTileOf.f
  rw [h, hr]
  simp [laws_eqTile.f]

end Go.Proofs.Ytafehlajangbfaa.Pure
