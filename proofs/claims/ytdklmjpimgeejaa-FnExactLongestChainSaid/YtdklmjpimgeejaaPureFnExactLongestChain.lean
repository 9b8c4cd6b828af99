/- Plain lists and numbers: what the program's functions and the reference's compute. The pure statement behind FnExactLongestChain: no conditions. -/
import Derived.Test.YtdklmjpimgeejaaPLawLongestChain
import Derived.Test.YtdklmjpimgeejaaQBaseC
import Derived.Test.YtdklmjpimgeejaaQLongestChain
import Derived.Test.YtdklmjpimgeejaaQScafI
namespace Go.Proofs.Ytdklmjpimgeejaa.Pure
open Go.RowKit Go.Proofs.Ytdklmjpimgeejaa.P Go.Proofs.Ytdklmjpimgeejaa.Q Go.Proofs.YtdklmjpimgeejaaW.PrintWords Go.Proofs.YtdklmjpimgeejaaW.PrintLast Go.Proofs.YtdklmjpimgeejaaW.PrintMore
set_option linter.unusedVariables false
set_option linter.unusedSimpArgs false

set_option maxRecDepth 100000 in
theorem FnExactLongestChain : laws_FnExactLongestChain.Pure := by
  intro l0 m0
  by_cases hb : l0.length ≤ 1048576
  case neg => exact ⟨1, by unfold laws_FnExactLongestChain.f; rw [szTileS_big l0 hb m0]; rfl⟩
  have g0 : ((1048576 - (l0.length : Int)) < 0) = False := by simp only [eq_iff_iff, iff_false]; omega
  obtain ⟨r, hs, hi, hln⟩ := LongestChain_same (l0.map convT)
  obtain ⟨r0, r1⟩ := r
  have hln' : r0.length ≤ 1048576 := hln
  have gm0 : ((1 + 2 * ((l0.map convT).length : Int)) < 0) = False := by simp only [eq_iff_iff, iff_false]; omega
  have gk0 : ((1 + (r0.length : Int)) < 0) = False := by simp only [eq_iff_iff, iff_false]; omega
  obtain ⟨K0, ft0⟩ := (toTileS_ev l0 (by omega))
  obtain ⟨K1, fs⟩ := hs
  obtain ⟨K2, fi⟩ := hi
  obtain ⟨K3, fe0⟩ := (eqTileS_ev (l0.map convT) (l0.map convT) (by rw [List.length_map]; omega))
  obtain ⟨K4, fm0⟩ := (markTileS_ev (l0.map convT) (by rw [List.length_map]; omega))
  obtain ⟨K5, fq0⟩ := (eqIntS_ev r0 r0 (by omega))
  obtain ⟨K6, fk0⟩ := (markIntS_ev r0 (by omega))
  obtain ⟨K7, fh0⟩ := (heldIntS_ev r0.length (by omega))
  obtain ⟨K, hK0, hK1, hK2, hK3, hK4, hK5, hK6, hK7⟩ : ∃ K, K0 ≤ K ∧ K1 ≤ K ∧ K2 ≤ K ∧ K3 ≤ K ∧ K4 ≤ K ∧ K5 ≤ K ∧ K6 ≤ K ∧ K7 ≤ K := ⟨K0 + K1 + K2 + K3 + K4 + K5 + K6 + K7, by omega, by omega, by omega, by omega, by omega, by omega, by omega, by omega⟩
  have H0 := fun c => ft0 (K + c) (by omega)
  have H1 := fun c => fs (K + c) (by omega)
  have H2 := fun c => fi (K + c) (by omega)
  have H3 := fun c => fe0 (K + c) (by omega)
  have H4 := fun c => fm0 (K + c) (by omega)
  have H5 := fun c => fq0 (K + c) (by omega)
  have H6 := fun c => fk0 (K + c) (by omega)
  have H7 := fun c => fh0 (K + c) (by omega)
  clear ft0 fs fi fe0 fm0 fq0 fk0 fh0
  dsimp only at H0 H1 H2 H3 H4 H5 H6 H7
  refine ⟨K + 9, ?_⟩
  simp [laws_FnExactLongestChain.f, laws_FnExactLongestChain.j0, laws_FnExactLongestChain.j1, laws_FnExactLongestChain.j2, szTileS_ok l0 hb, g0, gm0, gk0, H0, H1, H2, H3, H4, H5, H6, H7] <;> omega

end Go.Proofs.Ytdklmjpimgeejaa.Pure
