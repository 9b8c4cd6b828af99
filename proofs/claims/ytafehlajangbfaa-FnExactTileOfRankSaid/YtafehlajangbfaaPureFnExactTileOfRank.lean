/- Proved here: the pure statement behind FnExactTileOfRank: the program's function and the reference's give the same answer. Conditions: none beyond that the whole numbers are 64-bit ones. -/
import Derived.Test.YtafehlajangbfaaPFnExactTileOfRankx1
namespace Go.Proofs.Ytafehlajangbfaa.Pure
open Go.RowKit Go.Proofs.Ytafehlajangbfaa.PFnExactTileOfRank Go.Proofs.YtafehlajangbfaaW.PrintWords Go.Proofs.YtafehlajangbfaaW.PrintLast

theorem TileOfRank_in (n : Nat) (h : n < 55) : laws_FnExactTileOfRank.f 200 (n : Int) = some true := by
  have H : ∀ m : Fin 55, laws_FnExactTileOfRank.f 200 ((m.val : Nat) : Int) = some true := by decide +kernel
  exact H ⟨n, h⟩

theorem FnExactTileOfRank : laws_FnExactTileOfRank.Pure := by
  intro a0 _
  by_cases h : 0 ≤ a0 ∧ a0 ≤ 54
  · obtain ⟨n, rfl⟩ : ∃ n : Nat, a0 = n := ⟨a0.toNat, by omega⟩
    exact ⟨200, TileOfRank_in n (by omega)⟩
  · refine ⟨0, ?_⟩
    have h1 : spec_l1In.f a0 0 54 = some false := by
      unfold spec_l1In.f
      by_cases h0 : a0 ≥ 0
      · rw [if_pos h0]; simp; omega
      · rw [if_neg h0]
    have h2 : impl_within.f a0 0 54 = some false := by
      unfold impl_within.f
      by_cases h0 : 0 ≤ a0
      · rw [if_pos h0]; simp; omega
      · rw [if_neg h0]
    unfold laws_FnExactTileOfRank.f spec_TileOfRank.f impl_TileOfRank.f
    rw [h1, h2]; rfl

end Go.Proofs.Ytafehlajangbfaa.Pure
