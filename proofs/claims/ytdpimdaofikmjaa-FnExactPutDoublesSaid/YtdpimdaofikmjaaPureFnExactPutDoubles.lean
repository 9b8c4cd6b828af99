/- Plain lists and numbers: what the program's functions and the reference's compute. The pure statement behind FnExactPutDoubles: no conditions. -/
import Derived.Test.YtdpimdaofikmjaaPLawPutDoubles
import Derived.Test.YtdpimdaofikmjaaQPutDoubles
import Derived.Test.YtdpimdaofikmjaaQScaf
import Derived.Test.YtdpimdaofikmjaaQScaf2
namespace Go.Proofs.Ytdpimdaofikmjaa.Pure
open Go.RowKit Go.Proofs.Ytdpimdaofikmjaa.P Go.Proofs.Ytdpimdaofikmjaa.Q Go.Proofs.YtdpimdaofikmjaaW.PrintWords Go.Proofs.YtdpimdaofikmjaaW.PrintLast Go.Proofs.YtdpimdaofikmjaaW.PrintMore
set_option linter.unusedVariables false
set_option linter.unusedSimpArgs false

set_option maxRecDepth 100000 in
theorem FnExactPutDoubles : laws_FnExactPutDoubles.Pure := by
  intro l0 l1 m0 m1
  by_cases hb0 : l0.length ≤ 1048576
  case neg => exact ⟨1, by unfold laws_FnExactPutDoubles.f; rw [if_pos (by omega)]⟩
  have g0 : ((l0.length : Int) > 1048576) = False := by simp only [eq_iff_iff, iff_false]; omega
  by_cases hb1 : (l1.length : Int) ≤ 1048576
  case neg => exact ⟨1, by unfold laws_FnExactPutDoubles.f; simp [g0, if_false, szTileS_bigm l1 (1048576) (by omega) (by omega) hb1 m1]⟩
  have g1 : (1048576 - (l1.length : Int) < 0) = False := by simp only [eq_iff_iff, iff_false]; omega
  obtain ⟨r, hs, hi, hln⟩ := PutDoubles_same l0 (l1.map convT) (by omega)
  obtain ⟨r0, r1⟩ := r
  have hln' : r0.length ≤ 1048576 := hln
  have gm0 : ((1 + (l0.length : Int)) < 0) = False := by simp only [eq_iff_iff, iff_false]; omega
  have gm1 : ((1 + (l0.length : Int) + 2 * (l1.length : Int)) < 0) = False := by simp only [eq_iff_iff, iff_false]; omega
  have gk0 : ((1 + (r0.length : Int)) < 0) = False := by simp only [eq_iff_iff, iff_false]; omega
  obtain ⟨K0, ft0⟩ := (toIntS_ev l0 (by omega))
  obtain ⟨K1, ft1⟩ := (toTileS_ev l1 (by omega))
  obtain ⟨K2, fs⟩ := hs
  obtain ⟨K3, fi⟩ := hi
  obtain ⟨K4, fe0⟩ := (eqIntS_ev l0 l0 (by omega))
  obtain ⟨K5, fe1⟩ := (eqTileS_ev (l1.map convT) (l1.map convT) (by rw [List.length_map]; omega))
  obtain ⟨K6, fm0⟩ := (markIntS_ev l0 (by omega))
  obtain ⟨K7, fm1⟩ := (markTileS_evm (l1.map convT) (1 + (l0.length : Int)) (by omega) (by omega) (by rw [List.length_map]; omega))
  obtain ⟨K8, fq0⟩ := (eqIntS_ev r0 r0 (by omega))
  obtain ⟨K9, fk0⟩ := (markIntS_ev r0 (by omega))
  obtain ⟨K10, fh0⟩ := (heldIntS_ev r0.length (by omega))
  obtain ⟨K, hK0, hK1, hK2, hK3, hK4, hK5, hK6, hK7, hK8, hK9, hK10⟩ : ∃ K, K0 ≤ K ∧ K1 ≤ K ∧ K2 ≤ K ∧ K3 ≤ K ∧ K4 ≤ K ∧ K5 ≤ K ∧ K6 ≤ K ∧ K7 ≤ K ∧ K8 ≤ K ∧ K9 ≤ K ∧ K10 ≤ K := ⟨K0 + K1 + K2 + K3 + K4 + K5 + K6 + K7 + K8 + K9 + K10, by omega, by omega, by omega, by omega, by omega, by omega, by omega, by omega, by omega, by omega, by omega⟩
  have H0 := fun c => ft0 (K + c) (by omega)
  have H1 := fun c => ft1 (K + c) (by omega)
  have H2 := fun c => fs (K + c) (by omega)
  have H3 := fun c => fi (K + c) (by omega)
  have H4 := fun c => fe0 (K + c) (by omega)
  have H5 := fun c => fe1 (K + c) (by omega)
  have H6 := fun c => fm0 (K + c) (by omega)
  have H7 := fun c => fm1 (K + c) (by omega)
  have H8 := fun c => fq0 (K + c) (by omega)
  have H9 := fun c => fk0 (K + c) (by omega)
  have H10 := fun c => fh0 (K + c) (by omega)
  clear ft0 ft1 fs fi fe0 fe1 fm0 fm1 fq0 fk0 fh0
  dsimp only at H0 H1 H2 H3 H4 H5 H6 H7 H8 H9 H10
  refine ⟨K + 9, ?_⟩
  simp [laws_FnExactPutDoubles.f, laws_FnExactPutDoubles.j0, laws_FnExactPutDoubles.j1, laws_FnExactPutDoubles.j2, g0, szTileS_okm l1 (1048576) (by omega) hb1, g1, gm0, gm1, gk0, H0, H1, H2, H3, H4, H5, H6, H7, H8, H9, H10] <;> omega

end Go.Proofs.Ytdpimdaofikmjaa.Pure
