/- Plain lists and numbers: what the program's functions and the reference's compute. The pure statement behind FnExactChainText: no conditions. -/
import Derived.Test.YtgcfddomnohajaaPLawChainText
import Derived.Test.YtgcfddomnohajaaQChainText
import Derived.Test.YtgcfddomnohajaaQScaf
namespace Go.Proofs.Ytgcfddomnohajaa.Pure
open Go.RowKit Go.Proofs.Ytgcfddomnohajaa.P Go.Proofs.Ytgcfddomnohajaa.Q Go.Proofs.YtgcfddomnohajaaW.PrintWords Go.Proofs.YtgcfddomnohajaaW.PrintLast Go.Proofs.YtgcfddomnohajaaW.PrintMore
set_option linter.unusedVariables false
set_option linter.unusedSimpArgs false

set_option maxRecDepth 100000 in
theorem FnExactChainText : laws_FnExactChainText.Pure := by
  intro l0 m0
  by_cases hb : l0.length ≤ 1048576
  case neg => exact ⟨1, by unfold laws_FnExactChainText.f; rw [if_pos (by omega)]⟩
  have g0 : ((l0.length : Int) > 1048576) = False := by simp only [eq_iff_iff, iff_false]; omega
  obtain ⟨r, hs, hi⟩ := ChainText_same l0 (by omega)
  obtain ⟨r0, r1⟩ := r
  obtain ⟨K0, ft0⟩ := (toIntS_ev l0 (by omega))
  obtain ⟨K1, fs⟩ := hs
  obtain ⟨K2, fi⟩ := hi
  obtain ⟨K3, fe0⟩ := (eqIntS_ev l0 l0 (by omega))
  obtain ⟨K, hK0, hK1, hK2, hK3⟩ : ∃ K, K0 ≤ K ∧ K1 ≤ K ∧ K2 ≤ K ∧ K3 ≤ K := ⟨K0 + K1 + K2 + K3, by omega, by omega, by omega, by omega⟩
  have H0 := fun c => ft0 (K + c) (by omega)
  have H1 := fun c => fs (K + c) (by omega)
  have H2 := fun c => fi (K + c) (by omega)
  have H3 := fun c => fe0 (K + c) (by omega)
  clear ft0 fs fi fe0
  dsimp only at H0 H1 H2 H3
  refine ⟨K + 9, ?_⟩
  simp [laws_FnExactChainText.f, laws_FnExactChainText.j0, g0, H0, H1, H2, H3] <;> omega

end Go.Proofs.Ytgcfddomnohajaa.Pure
