/- Proved here: the pure statement behind FnExactRankOf: the program's function and the reference's give the same answer. Conditions: none. -/
import Derived.Test.YtafehlajangbfaaPlawsFnExactRankOf
import Derived.Test.YtafehlajangbfaaPlawsFnExactIsTile
namespace Go.Proofs.Ytafehlajangbfaa.Pure
open Go.RowKit Go.Proofs.Ytafehlajangbfaa.P Go.Proofs.YtafehlajangbfaaW.PrintWords Go.Proofs.YtafehlajangbfaaW.PrintLast

theorem good_eq (a b : Int) : impl_IsTile.f a b = spec_tiGood.f a b := by
  unfold impl_IsTile.f impl_within.f spec_tiGood.f spec_l1In.f
  rfl
theorem good_some (a b : Int) : spec_tiGood.f a b = some (decide (0 ≤ a) && (decide (a ≤ b) && decide (b ≤ 9))) := by
  unfold spec_tiGood.f spec_l1In.f
  by_cases h : a ≥ 0
  · by_cases h2 : a ≤ b <;> simp [h, h2]
  · simp [h]
theorem RankOf_in (a b : Nat) (ha : a < 10) (hb : b < 10) : laws_FnExactRankOf.f 200 (a : Int) (b : Int) = some true := by
  have H : ∀ m n : Fin 10, laws_FnExactRankOf.f 200 ((m.val : Nat) : Int) ((n.val : Nat) : Int) = some true := by decide +kernel
  exact H ⟨a, ha⟩ ⟨b, hb⟩
theorem FnExactRankOf : laws_FnExactRankOf.Pure := by
  intro a b
  by_cases h : 0 ≤ a ∧ a ≤ b ∧ b ≤ 9
  · obtain ⟨m, rfl⟩ : ∃ n : Nat, a = n := ⟨a.toNat, by omega⟩
    obtain ⟨n, rfl⟩ : ∃ n : Nat, b = n := ⟨b.toNat, by omega⟩
    exact ⟨200, RankOf_in m n (by omega) (by omega)⟩
  · refine ⟨0, ?_⟩
    have h1 : spec_tiGood.f a b = some false := by
      rw [good_some]; congr 1; simp only [Bool.and_eq_false_iff, decide_eq_false_iff_not]; omega
    unfold laws_FnExactRankOf.f laws_toTile.f spec_RankOf.f impl_RankOf.f
    simp only [Option.bind_some]
    rw [good_eq, h1]; rfl

end Go.Proofs.Ytafehlajangbfaa.Pure
