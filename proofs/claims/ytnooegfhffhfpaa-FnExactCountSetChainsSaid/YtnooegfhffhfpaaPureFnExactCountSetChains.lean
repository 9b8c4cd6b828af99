/- Plain lists and numbers: what the program's functions and the reference's compute. The pure statement behind FnExactCountSetChains: no conditions. -/
import Derived.Test.YtnooegfhffhfpaaPLawCountSetChains
import Derived.Test.YtnooegfhffhfpaaQCountSe
namespace Go.Proofs.Ytnooegfhffhfpaa.Pure
open Go.RowKit Go.Proofs.Ytnooegfhffhfpaa.P Go.Proofs.Ytnooegfhffhfpaa.Q Go.Proofs.YtnooegfhffhfpaaW.PrintWords Go.Proofs.YtnooegfhffhfpaaW.PrintLast Go.Proofs.YtnooegfhffhfpaaW.PrintMore
set_option linter.unusedVariables false
set_option linter.unusedSimpArgs false

set_option maxRecDepth 100000 in
theorem FnExactCountSetChains : laws_FnExactCountSetChains.Pure := by
  intro a0 m0
  obtain ⟨r, hs, hi⟩ := CountSetChains_same a0
  obtain ⟨r0, r1⟩ := r
  obtain ⟨K0, fs⟩ := hs
  obtain ⟨K1, fi⟩ := hi
  obtain ⟨K, hK0, hK1⟩ : ∃ K, K0 ≤ K ∧ K1 ≤ K := ⟨K0 + K1, by omega, by omega⟩
  have H0 := fun c => fs (K + c) (by omega)
  have H1 := fun c => fi (K + c) (by omega)
  clear fs fi
  dsimp only at H0 H1
  refine ⟨K + 9, ?_⟩
  simp [laws_FnExactCountSetChains.f, H0, H1] <;> omega

end Go.Proofs.Ytnooegfhffhfpaa.Pure
