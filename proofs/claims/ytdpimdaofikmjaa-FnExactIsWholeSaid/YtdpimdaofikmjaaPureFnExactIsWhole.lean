/- Plain lists and numbers: what the program's functions and the reference's compute. The pure statement behind FnExactIsWhole: no conditions. -/
import Derived.Test.YtdpimdaofikmjaaPLawIsWhole
import Derived.Test.YtdpimdaofikmjaaQIsWhole
import Derived.Test.YtdpimdaofikmjaaQScaf
import Derived.Test.YtdpimdaofikmjaaQScaf2
namespace Go.Proofs.Ytdpimdaofikmjaa.Pure
open Go.RowKit Go.Proofs.Ytdpimdaofikmjaa.P Go.Proofs.Ytdpimdaofikmjaa.Q Go.Proofs.YtdpimdaofikmjaaW.PrintWords Go.Proofs.YtdpimdaofikmjaaW.PrintLast Go.Proofs.YtdpimdaofikmjaaW.PrintMore
set_option linter.unusedVariables false
set_option linter.unusedSimpArgs false

set_option maxRecDepth 100000 in
theorem FnExactIsWhole : laws_FnExactIsWhole.Pure := by
  intro l0 l1 m0 m1
  by_cases hb1 : l1.length ≤ 1048576
  case neg => exact ⟨1, by unfold laws_FnExactIsWhole.f; rw [if_pos (by omega)]⟩
  have g1 : ((l1.length : Int) > 1048576) = False := by simp only [eq_iff_iff, iff_false]; omega
  by_cases hb0 : (l0.length : Int) ≤ 1048576
  case neg => exact ⟨1, by unfold laws_FnExactIsWhole.f; simp [g1, if_false, szTileS_bigm l0 (1048576) (by omega) (by omega) hb0 m0]⟩
  have g0 : (1048576 - (l0.length : Int) < 0) = False := by simp only [eq_iff_iff, iff_false]; omega
  obtain ⟨r, hs, hi⟩ := IsWhole_same (l0.map convT) l1 (by omega)
  obtain ⟨r0, r1⟩ := r
  obtain ⟨K0, ft0⟩ := (toTileS_ev l0 (by omega))
  obtain ⟨K1, ft1⟩ := (toIntS_ev l1 (by omega))
  obtain ⟨K2, fs⟩ := hs
  obtain ⟨K3, fi⟩ := hi
  obtain ⟨K4, fe0⟩ := (eqTileS_ev (l0.map convT) (l0.map convT) (by rw [List.length_map]; omega))
  obtain ⟨K5, fe1⟩ := (eqIntS_ev l1 l1 (by omega))
  obtain ⟨K, hK0, hK1, hK2, hK3, hK4, hK5⟩ : ∃ K, K0 ≤ K ∧ K1 ≤ K ∧ K2 ≤ K ∧ K3 ≤ K ∧ K4 ≤ K ∧ K5 ≤ K := ⟨K0 + K1 + K2 + K3 + K4 + K5, by omega, by omega, by omega, by omega, by omega, by omega⟩
  have H0 := fun c => ft0 (K + c) (by omega)
  have H1 := fun c => ft1 (K + c) (by omega)
  have H2 := fun c => fs (K + c) (by omega)
  have H3 := fun c => fi (K + c) (by omega)
  have H4 := fun c => fe0 (K + c) (by omega)
  have H5 := fun c => fe1 (K + c) (by omega)
  clear ft0 ft1 fs fi fe0 fe1
  dsimp only at H0 H1 H2 H3 H4 H5
  refine ⟨K + 9, ?_⟩
  simp [laws_FnExactIsWhole.f, laws_FnExactIsWhole.j0, g1, szTileS_okm l0 (1048576) (by omega) hb0, g0, H0, H1, H2, H3, H4, H5] <;> omega

end Go.Proofs.Ytdpimdaofikmjaa.Pure
