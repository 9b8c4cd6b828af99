/- Plain lists and numbers: what the program's functions and the reference's compute. The pure statement behind FnExactFirstLeftOut: no conditions. -/
import Derived.Test.YtdfafbpaoiofnaaPLawFirstLeftOut
import Derived.Test.YtdfafbpaoiofnaaQLeftOut
import Derived.Test.YtdfafbpaoiofnaaQScafD
namespace Go.Proofs.Ytdfafbpaoiofnaa.Pure
open Go.RowKit Go.Proofs.Ytdfafbpaoiofnaa.P Go.Proofs.Ytdfafbpaoiofnaa.Q Go.Proofs.YtdfafbpaoiofnaaW.PrintWords Go.Proofs.YtdfafbpaoiofnaaW.PrintLast Go.Proofs.YtdfafbpaoiofnaaW.PrintMore
set_option linter.unusedVariables false
set_option linter.unusedSimpArgs false

set_option maxRecDepth 100000 in
theorem FnExactFirstLeftOut : laws_FnExactFirstLeftOut.Pure := by
  intro a0 m0
  obtain ⟨r, hs, hi, hln⟩ := FirstLeftOut_same a0
  obtain ⟨r0, r1⟩ := r
  have hln' : r0.length ≤ 1048576 := hln
  have gk0 : ((1 + 2 * (r0.length : Int)) < 0) = False := by simp only [eq_iff_iff, iff_false]; omega
  obtain ⟨K0, fs⟩ := hs
  obtain ⟨K1, fi⟩ := hi
  obtain ⟨K2, fq0⟩ := (eqTileS_ev r0 r0 (by omega))
  obtain ⟨K3, fk0⟩ := (markTileS_ev r0 (by omega))
  obtain ⟨K4, fh0⟩ := (heldTileS_ev r0.length (by omega))
  obtain ⟨K, hK0, hK1, hK2, hK3, hK4⟩ : ∃ K, K0 ≤ K ∧ K1 ≤ K ∧ K2 ≤ K ∧ K3 ≤ K ∧ K4 ≤ K := ⟨K0 + K1 + K2 + K3 + K4, by omega, by omega, by omega, by omega, by omega⟩
  have H0 := fun c => fs (K + c) (by omega)
  have H1 := fun c => fi (K + c) (by omega)
  have H2 := fun c => fq0 (K + c) (by omega)
  have H3 := fun c => fk0 (K + c) (by omega)
  have H4 := fun c => fh0 (K + c) (by omega)
  clear fs fi fq0 fk0 fh0
  dsimp only at H0 H1 H2 H3 H4
  refine ⟨K + 9, ?_⟩
  simp [laws_FnExactFirstLeftOut.f, laws_FnExactFirstLeftOut.j0, laws_FnExactFirstLeftOut.j1, gk0, H0, H1, H2, H3, H4] <;> omega

end Go.Proofs.Ytdfafbpaoiofnaa.Pure
