/- Proved here: the pure statement behind FnExactIsTile: the program's function and the reference's give the same answer. Conditions: none. -/
import Derived.Test.YtafehlajangbfaaPlawsFnExactIsTile
namespace Go.Proofs.Ytafehlajangbfaa.Pure
open Go.RowKit Go.Proofs.Ytafehlajangbfaa.P Go.Proofs.YtafehlajangbfaaW.PrintWords Go.Proofs.YtafehlajangbfaaW.PrintLast

theorem good_eq (a b : Int) : impl_IsTile.f a b = spec_tiGood.f a b := by
  unfold impl_IsTile.f impl_within.f spec_tiGood.f spec_l1In.f
  rfl
theorem good_some (a b : Int) : spec_tiGood.f a b = some (decide (0 ≤ a) && (decide (a ≤ b) && decide (b ≤ 9))) := by
  unfold spec_tiGood.f spec_l1In.f
  by_cases h : a ≥ 0
  · by_cases h2 : a ≤ b <;> simp [h, h2]
  · simp [h]
theorem FnExactIsTile : laws_FnExactIsTile.Pure := by
  intro a b
  unfold laws_FnExactIsTile.f laws_toTile.f spec_IsTile.f
  simp only [Option.bind_some]
  rw [good_eq, good_some]
  simp

end Go.Proofs.Ytafehlajangbfaa.Pure
