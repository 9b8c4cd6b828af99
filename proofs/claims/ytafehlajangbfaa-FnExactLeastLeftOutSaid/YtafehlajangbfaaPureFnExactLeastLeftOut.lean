/- Proved here: the pure statement behind FnExactLeastLeftOut: the program's function and the reference's give the same answer. Conditions: none beyond that the whole numbers are 64-bit ones. -/
import Derived.Test.YtafehlajangbfaaPFnExactLeastLeftOutx1
namespace Go.Proofs.Ytafehlajangbfaa.Pure
open Go.RowKit Go.Proofs.Ytafehlajangbfaa.PFnExactLeastLeftOut Go.Proofs.YtafehlajangbfaaW.PrintWords Go.Proofs.YtafehlajangbfaaW.PrintLast

theorem LeastLeftOut_in (n : Nat) (h : n < 10) : laws_FnExactLeastLeftOut.f 200 (n : Int) = some true := by
  have H : ∀ m : Fin 10, laws_FnExactLeastLeftOut.f 200 ((m.val : Nat) : Int) = some true := by decide +kernel
  exact H ⟨n, h⟩

theorem FnExactLeastLeftOut : laws_FnExactLeastLeftOut.Pure := by
  intro a0 _
  by_cases h : 0 ≤ a0 ∧ a0 ≤ 9
  · obtain ⟨n, rfl⟩ : ∃ n : Nat, a0 = n := ⟨a0.toNat, by omega⟩
    exact ⟨200, LeastLeftOut_in n (by omega)⟩
  · refine ⟨0, ?_⟩
    have h1 : spec_tiNumber.f a0 = some false := by
      unfold spec_tiNumber.f spec_l1In.f
      by_cases h0 : a0 ≥ 0
      · rw [if_pos h0]; simp; omega
      · rw [if_neg h0]; rfl
    have h2 : impl_isNumber.f a0 = some false := by
      unfold impl_isNumber.f impl_within.f
      by_cases h0 : 0 ≤ a0
      · rw [if_pos h0]; simp; omega
      · rw [if_neg h0]; rfl
    unfold laws_FnExactLeastLeftOut.f spec_LeastLeftOut.f impl_LeastLeftOut.f impl_FirstLeftOut.f
    rw [h1, h2]; rfl

end Go.Proofs.Ytafehlajangbfaa.Pure
