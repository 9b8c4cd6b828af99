/- Plain lists and numbers: what the program's functions and the reference's compute. The pure statement behind FnExactCountWithoutDoubles: no conditions. -/
import Derived.Test.YtnooegfhffhfpaaPLawCountWithoutDoubles
import Derived.Test.YtnooegfhffhfpaaQBaseF
import Derived.Test.YtnooegfhffhfpaaQCountWD
namespace Go.Proofs.Ytnooegfhffhfpaa.Pure
open Go.RowKit Go.Proofs.Ytnooegfhffhfpaa.P Go.Proofs.Ytnooegfhffhfpaa.Q Go.Proofs.YtnooegfhffhfpaaW.PrintWords Go.Proofs.YtnooegfhffhfpaaW.PrintLast Go.Proofs.YtnooegfhffhfpaaW.PrintMore
set_option linter.unusedVariables false
set_option linter.unusedSimpArgs false

set_option maxRecDepth 100000 in
theorem FnExactCountWithoutDoubles : laws_FnExactCountWithoutDoubles.Pure := by
  intro l0 m0
  by_cases hb : l0.length ≤ 1048576
  case neg => exact ⟨1, by unfold laws_FnExactCountWithoutDoubles.f; rw [szTileS_big l0 hb m0]; rfl⟩
  have g0 : ((1048576 - (l0.length : Int)) < 0) = False := by simp only [eq_iff_iff, iff_false]; omega
  obtain ⟨r, hs, hi⟩ := CountWithoutDoubles_same (l0.map convT)
  obtain ⟨r0, r1⟩ := r
  obtain ⟨K0, ft0⟩ := (toTileS_ev l0 (by omega))
  obtain ⟨K1, fs⟩ := hs
  obtain ⟨K2, fi⟩ := hi
  obtain ⟨K3, fe0⟩ := (eqTileS_ev (l0.map convT) (l0.map convT) (by rw [List.length_map]; omega))
  obtain ⟨K, hK0, hK1, hK2, hK3⟩ : ∃ K, K0 ≤ K ∧ K1 ≤ K ∧ K2 ≤ K ∧ K3 ≤ K := ⟨K0 + K1 + K2 + K3, by omega, by omega, by omega, by omega⟩
  have H0 := fun c => ft0 (K + c) (by omega)
  have H1 := fun c => fs (K + c) (by omega)
  have H2 := fun c => fi (K + c) (by omega)
  have H3 := fun c => fe0 (K + c) (by omega)
  clear ft0 fs fi fe0
  dsimp only at H0 H1 H2 H3
  refine ⟨K + 9, ?_⟩
  simp [laws_FnExactCountWithoutDoubles.f, laws_FnExactCountWithoutDoubles.j0, szTileS_ok l0 hb, g0, H0, H1, H2, H3] <;> omega

end Go.Proofs.Ytnooegfhffhfpaa.Pure
